/- What the rows stand on, part 18: SkpF, Own, RegT. Printed by bundle.py out of my texts. -/
import Derived.Test.YthgecojbggoniaaGreatDoorBe01
import Derived.Test.YthgecojbggoniaaGreatDoorBe06
import Derived.Test.YthgecojbggoniaaGreatDoorBe10
import Derived.Test.YthgecojbggoniaaGreatDoorBe14
import Derived.Laws.AppendOwnNone
import Derived.Deep.RegionHeld
import Derived.StillTail
namespace Go.Proofs.YthgecojbggoniaaGreatDoor
open Go.RowKit
set_option maxRecDepth 100000
set_option linter.unusedVariables false
set_option linter.unusedSimpArgs false
set_option linter.unnecessarySimpa false

abbrev Rw := ByteArray × ByteArray
def belowR (k : ByteArray) (R : List Rw) : List Rw := R.takeWhile (fun x => klt x.1 k)
def aboveR (k : ByteArray) (R : List Rw) : List Rw := R.dropWhile (fun x => klt x.1 k)
def restR (k : ByteArray) : List Rw → List Rw
  | [] => []
  | x :: r => if x.1.toList == k.toList then r else x :: r
def putR (k v : ByteArray) (R : List Rw) : List Rw := belowR k R ++ (k, v) :: restR k (aboveR k R)
def dropR (k : ByteArray) (R : List Rw) : List Rw := belowR k R ++ restR k (aboveR k R)
def getR (k : ByteArray) (R : List Rw) : Option ByteArray := match (aboveR k R).head? with | some x => if x.1.toList == k.toList then some x.2 else none | none => none
def rowsL (L : List Nd) : List Rw := L.map (fun n => (n.key, n.val))
theorem belowR_rows (k : ByteArray) (L : List Nd) : belowR k (rowsL L) = rowsL (below k L) := by
  unfold belowR rowsL below
  rw [List.takeWhile_map]
  rfl
theorem aboveR_rows (k : ByteArray) (L : List Nd) : aboveR k (rowsL L) = rowsL (above k L) := by
  unfold aboveR rowsL above
  rw [List.dropWhile_map]
  rfl
theorem getR_rows (k : ByteArray) (L : List Nd) : getR k (rowsL L) = (getN k L).map (·.val) := by
  unfold getR getN
  rw [aboveR_rows]
  cases above k L with
  | nil => rfl
  | cons x r =>
    simp only [rowsL, List.map_cons, List.head?_cons]
    split <;> rfl
theorem rest_none {k : ByteArray} {L : List Nd} (h : getN k L = none) : restR k (aboveR k (rowsL L)) = rowsL (above k L) := by
  rw [aboveR_rows]
  unfold getN at h
  cases ha : above k L with
  | nil => rfl
  | cons x r =>
    rw [ha] at h
    simp only [List.head?_cons] at h
    simp only [rowsL, List.map_cons, restR]
    split at h
    · cases h
    · rename_i hn
      rw [if_neg hn]
theorem rest_some {k : ByteArray} {L r : List Nd} {n : Nd} (h : getN k L = some n) (ha : above k L = n :: r) : restR k (aboveR k (rowsL L)) = rowsL r := by
  rw [aboveR_rows, ha]
  unfold getN at h
  rw [ha] at h
  simp only [List.head?_cons] at h
  simp only [rowsL, List.map_cons, restR]
  split at h
  · rename_i hn
    rw [if_pos hn]
  · cases h
theorem put_sk {lb H : Nat} {S : Nat → Prop} {L : List Nd} {w : World} (h : SkipAt lb H S L w) (key val : ByteArray) (s : Nat) (hs : 1 ≤ s ∧ s ≤ 16) (hlen : L.length < 4611686018427387904) :
    Calls Tryz.prog 56 #[.pointer (some ⟨lb, 0, none⟩), .string key, .string val, .int .i64 s] w fun e w' => e = .returned (.bool true) ∧ (∃ L', rowsL L' = putR key val (rowsL L) ∧ SkipAt lb H (UpS S w) L' w') ∧ FrT (UpS S w) w w' := by
  cases hn : getN key L with
  | none =>
    refine (put_new h key val s hs hlen hn).mono ?_
    rintro e w' ⟨rfl, ⟨nn, rfl, rfl, h1⟩, h2⟩
    refine ⟨rfl, ⟨_, ?_, h1⟩, h2⟩
    unfold putR
    rw [belowR_rows, rest_none hn]
    simp [rowsL]
  | some n =>
    refine (put_old h key val s hs hn).mono ?_
    rintro e w' ⟨rfl, ⟨r, hr, h1⟩, h2⟩
    refine ⟨rfl, ⟨_, ?_, h1.mono (fun _ h => .inl h)⟩, ⟨h2.os, h2.tape, h2.output, h2.size, fun k o ho hnS => h2.blk k o ho (fun hs => hnS (.inl hs))⟩⟩
    unfold putR
    rw [belowR_rows, rest_some hn hr]
    simp [rowsL, (getN_mem hn).2]
theorem drop_none {lb H : Nat} {S : Nat → Prop} {L : List Nd} {w : World} (h : SkipAt lb H S L w) (key : ByteArray) (hn : getN key L = none) :
    Calls Tryz.prog 55 #[.pointer (some ⟨lb, 0, none⟩), .string key] w fun e w' => e = .returned (.bool false) ∧ Gr w w' := by
  have hf := find_sk h key
  rw [hn] at hf
  have HF := Lib.hid hf
  clear h hn hf
  simp only [ptr] at HF
  go_enter Tryz.func55, Tryz.ntmps55
  go_wp2_with (first | (go_at_call 81; refine HF.out.mono ?_; rintro e w1 ⟨rfl, hg1⟩) | fail)
  go_ret
  exact ⟨rfl, hg1⟩
theorem drop_sk {lb H : Nat} {S : Nat → Prop} {L : List Nd} {w : World} (h : SkipAt lb H S L w) (key : ByteArray) (hlen : L.length < 4611686018427387904) :
    Calls Tryz.prog 55 #[.pointer (some ⟨lb, 0, none⟩), .string key] w fun e w' => (∃ b, e = .returned (.bool b)) ∧ (∃ L', rowsL L' = dropR key (rowsL L) ∧ SkipAt lb H S L' w') ∧ FrT S w w' := by
  cases hn : getN key L with
  | none =>
    refine (drop_none h key hn).mono ?_
    rintro e w' ⟨rfl, hg⟩
    refine ⟨⟨_, rfl⟩, ⟨L, ?_, h.gr hg⟩, FrT.gr hg⟩
    unfold dropR
    rw [belowR_rows, rest_none hn]
    simp only [rowsL, ← List.map_append, below_above]
  | some n =>
    refine (drop_some h key hlen hn).mono ?_
    rintro e w' ⟨rfl, ⟨r, hr, h1⟩, h2⟩
    refine ⟨⟨_, rfl⟩, ⟨_, ?_, h1⟩, h2⟩
    unfold dropR
    rw [belowR_rows, rest_some hn hr]
    simp [rowsL]
theorem new_skip (w : World) : Calls Tryz.prog 53 #[] w fun e w' => ∃ lb H, e = .returned (.pointer (some ⟨lb, 0, none⟩)) ∧ SkipAt lb H (fun k => w.heap.size ≤ k) [] w' ∧ Gr w w' := by
  go_enter Tryz.func53, Tryz.ntmps53
  go_wp2
  go_ret
  refine ⟨w.heap.size + 1, w.heap.size, rfl, ⟨heap_newn (by simp), ⟨heap_alloc1 (heap_newn rfl), trivial⟩, List.Pairwise.nil, by simp, by simp, by simp, by simp [hd0]⟩, ((Gr.refl w).alloc _).alloc _⟩
end Go.Proofs.YthgecojbggoniaaGreatDoor
namespace Go.Proofs.YthgecojbggoniaaGreatDoor
open Go.RowKit
set_option linter.unusedVariables false

/-- an element type: the slice's type t, its own e, cells, zero, bytes -/
structure ElTy (t e : TypeId) (k : Nat) (z : Value) (by_ : Nat) : Prop where
  ht : Tryz.prog.underlying t = some (.slice e)
  info : (Tryz.prog.info? e).map (fun i => (i.zero, i.size, i.bytes)) = some (some z, k, by_)
  hz : z.cells.size = k
  hk : 0 < k
/-- how an element is written in cells -/
structure Enc {α : Type} (enc : α → List Value) (k : Nat) : Prop where
  len : ∀ a, (enc a).length = k
  one : ∀ a, ∀ u ∈ enc a, u.oneCell' = true
def RE {α : Type} (enc : α → List Value) (_ : World) (ds : List Value) (a : α) : Prop := ds = enc a
def OwnG {α : Type} (e : TypeId) (k : Nat) (enc : α → List Value) (w : World) (N : Nat) (v : Value) (l : List α) : Prop := w.ownsRow N e k v l.length (l.flatMap enc)

section
variable {α : Type} {enc : α → List Value} {k : Nat}
theorem flatMap_get (hk : 0 < k) (hl : ∀ a, (enc a).length = k) : ∀ (l : List α) (j : Nat) (u : Value), (l.flatMap enc)[j]? = some u → ∃ h : j / k < l.length, (enc l[j / k])[j % k]? = some u
  | [], j, u, h => by simp at h
  | a :: r, j, u, h => by
    rw [List.flatMap_cons] at h
    by_cases hj : j < k
    · rw [List.getElem?_append_left (by rw [hl]; exact hj)] at h
      have h0 : j / k = 0 := Nat.div_eq_of_lt hj
      refine ⟨by rw [h0]; simp, ?_⟩
      rw [Nat.mod_eq_of_lt hj]
      simpa [h0] using h
    · rw [List.getElem?_append_right (by rw [hl]; omega), hl] at h
      obtain ⟨h1, h2⟩ := flatMap_get hk hl r (j - k) u h
      have e1 : j / k = (j - k) / k + 1 := by rw [← Nat.add_div_right _ hk]; congr 1; omega
      have e2 : j % k = (j - k) % k := by rw [← Nat.mod_eq_sub_mod (by omega)]
      refine ⟨by rw [e1]; simpa using h1, ?_⟩
      rw [e2]
      simpa [e1] using h2
theorem flatMap_len (hl : ∀ a, (enc a).length = k) : ∀ l : List α, (l.flatMap enc).length = l.length * k
  | [] => by simp
  | a :: r => by rw [List.flatMap_cons, List.length_append, hl, flatMap_len hl r, List.length_cons, Nat.add_mul]; omega
theorem flatMap_at (hk : 0 < k) (hl : ∀ a, (enc a).length = k) (l : List α) (i j : Nat) (hi : i < l.length) (hj : j < k) : (l.flatMap enc)[i * k + j]? = (enc l[i])[j]? := by
  have hlt : i * k + j < (l.flatMap enc).length := by
    rw [flatMap_len hl]
    have : (i + 1) * k ≤ l.length * k := Nat.mul_le_mul_right k hi
    rw [Nat.add_mul] at this
    omega
  obtain ⟨h1, h2⟩ := flatMap_get hk hl l (i * k + j) _ (List.getElem?_eq_getElem hlt)
  have e1 : (i * k + j) / k = i := by rw [Nat.mul_comm, Nat.mul_add_div hk, Nat.div_eq_of_lt hj]; rfl
  have e2 : (i * k + j) % k = j := by rw [Nat.mul_comm, Nat.mul_add_mod, Nat.mod_eq_of_lt hj]
  rw [List.getElem?_eq_getElem hlt, ← h2]
  simp only [e1, e2]

theorem RdE.gr {a b : World} (hg : Gr a b) {v : Value} {l : List α} (h : RdR (RE enc) k a v l) : RdR (RE enc) k b v l := RdR.gr (fun _ _ _ _ _ h => h) hg h
theorem OwnG.nil {e : TypeId} (w : World) (N : Nat) : OwnG e k enc w N (.slice none 0 0) ([] : List α) := World.ownsRow_nil _ _ _ _
theorem OwnG.gr {e : TypeId} {a b : World} (hg : Gr a b) {N : Nat} {v : Value} {l : List α} (h : OwnG e k enc a N v l) : OwnG e k enc b N v l := Gr.ownsRow hg h
theorem OwnG.mono {e : TypeId} {a : World} {N N' : Nat} {v : Value} {l : List α} (h : OwnG e k enc a N v l) (hN : N' ≤ N) : OwnG e k enc a N' v l := ownsRow_mono h hN
theorem OwnG.grew {e : TypeId} {w0 W w' : World} (hg : Gr w0 W) {v : Value} {l : List α} (hown : OwnG e k enc W w0.heap.size v l) (h : W.grownBy w' v.ownBlock) : Gr w0 w' :=
  hg.grown h (fun j hj => (World.ownsRow.lt hown j hj).1)
theorem OwnG.slice {e : TypeId} {w : World} {N : Nat} {v : Value} {l : List α} (h : OwnG e k enc w N v l) : ∃ q c, v = .slice q l.length c := by
  rcases h.2 with ⟨rfl, hn⟩ | ⟨g, cap, cur, rfl, _⟩
  · exact ⟨none, 0, by rw [hn]⟩
  · exact ⟨_, _, rfl⟩
theorem OwnG.rd {e : TypeId} (hE : Enc enc k) (hk : 0 < k) {w : World} {N : Nat} {v : Value} {l : List α} (h : OwnG e k enc w N v l) : RdR (RE enc) k w v l := by
  rcases h.2 with ⟨rfl, hn⟩ | ⟨g, cap, cur, rfl, h1, h2, h3, h4, h5, h6⟩
  · exact .inl ⟨List.eq_nil_of_length_eq_zero hn, none, 0, rfl, by unfold maxLen; omega, fun _ => rfl⟩
  · by_cases h0 : l.length = 0
    · have : l = [] := List.eq_nil_of_length_eq_zero h0
      subst this
      exact .inl ⟨rfl, _, cap, rfl, h4, fun h => by simp at h⟩
    · refine .inr ⟨g, 0, cap, rfl, by omega, h3, h4, (Array.getElem?_eq_some_iff.1 h2).1, fun i hi => ⟨enc l[i], hE.len _, fun j hj => ?_, rfl⟩⟩
      rw [hE.len] at hj
      have hlt : i * k + j < l.length * k := by
        have : (i + 1) * k ≤ l.length * k := Nat.mul_le_mul_right k hi
        rw [Nat.add_mul] at this
        omega
      have e1 : (cur.toList.take (l.length * k))[i * k + j]? = (l.flatMap enc)[i * k + j]? := by rw [h6]
      rw [List.getElem?_take, if_pos hlt, flatMap_at hk hE.len l i j hi hj] at e1
      have e2 : (enc l[i])[j]? = some ((enc l[i])[j]'(by rw [hE.len]; exact hj)) := List.getElem?_eq_getElem (by rw [hE.len]; exact hj)
      rw [e2] at e1
      simp only [World.cell?, h2, Nat.zero_add]
      simpa using e1

theorem OwnG.kept {e : TypeId} {w w' : World} {N : Nat} {v : Value} {l : List α} (h : OwnG e k enc w N v l) (hb : ∀ (g : Nat) (c : Array Value) (f : Nat × Nat), w.heap[g]? = some (Obj.cells c e f) → w'.heap[g]? = some (Obj.cells c e f)) : OwnG e k enc w' N v l := by
  refine ⟨h.1, ?_⟩
  rcases h.2 with h1 | ⟨g, cap, cur, h1, h2, h3, h4⟩
  · exact .inl h1
  · exact .inr ⟨g, cap, cur, h1, h2, hb g cur _ h3, h4⟩

/-- append(s, x...): s the call's own, x read -/
theorem app_gen {t e : TypeId} {z : Value} {by_ : Nat} (hT : ElTy t e k z by_) (hE : Enc enc k) {W : World} {N : Nat} (hN : N ≤ W.heap.size) {ops : Array Oper} {rest : List Oper} {o : Oper} {a : Act} {Q : Exit → Act → World → Prop} (hgd : o.guard = none) (s x : Operand)
    (ho : o.op = .call { callee := .builtin .append, args := #[s, x], argTypes := #[t, t] }) {v y : Value} (xs l : List α) (hs : a.eval s = v) (hx : a.eval x = y)
    (hown : OwnG e k enc W N v xs) (hrd : RdR (RE enc) k W y l) (hlen : (xs.length + l.length) * by_ ≤ 140737488355328) (hlen2 : xs.length + l.length ≤ 140737488355328)
    (h : ∀ v' w', OwnG e k enc w' N v' (xs ++ l) → W.grownBy w' v.ownBlock → wpList Tryz.prog ops Q rest (a.put o.dst v') w') : wpList Tryz.prog ops Q (o :: rest) a W := by
  obtain ⟨i0, hi, hz0, hz1, hz2⟩ := info_parts hT.info
  have done : ∀ v' w', w'.ownsRow N e k v' (xs.length + l.length) (xs.flatMap enc ++ l.flatMap enc) → W.grownBy w' v.ownBlock → wpList Tryz.prog ops Q rest (a.put o.dst v') w' := by
    intro v' w' h1 h2
    refine h v' w' ?_ h2
    unfold OwnG
    rw [List.flatMap_append, List.length_append]
    exact h1
  rcases hrd with ⟨rfl, q, c, rfl, h1, h2⟩ | ⟨blk, off, cap, rfl, h1, h2, h3, h4, h5⟩
  · cases q with
    | none =>
      obtain rfl : c = 0 := h2 rfl
      refine wpList_append_own_none hgd s x t ho N e i0 k hT.ht hi v _ _ hs hown hx ?_
      exact done v W (by simpa [OwnG] using hown) ⟨rfl, rfl, rfl, Nat.le_refl _, fun _ _ _ => rfl⟩
    | some q =>
      refine wpList_append_own _ hgd s x t ho N e i0 z k by_ hT.ht hi hz0 hz1 hz2 hT.hz hT.hk v _ _ hs hown q 0 c [] hx (by simp) (fun j u hj => by simp at hj) (fun u hu => by simp at hu) (by unfold maxLen; simp at hlen2 ⊢; omega) (by simpa using hlen) hN ?_
      intro v' w' h1 h2 _
      exact done v' w' (by simpa using h1) h2
  · refine wpList_append_own _ hgd s x t ho N e i0 z k by_ hT.ht hi hz0 hz1 hz2 hT.hz hT.hk v _ _ hs hown ⟨blk, off, none⟩ l.length cap (l.flatMap enc) hx (flatMap_len hE.len l) (fun j u hj => ?_) (fun u hu => ?_) (by unfold maxLen; omega) hlen hN ?_
    · obtain ⟨g1, g2⟩ := flatMap_get hT.hk hE.len l j u hj
      obtain ⟨ds, d1, d2, d3⟩ := h5 (j / k) g1
      unfold RE at d3
      subst d3
      have hjk : j % k < (enc l[j / k]).length := by rw [hE.len]; exact Nat.mod_lt _ hT.hk
      have := d2 (j % k) hjk
      rw [show j / k * k + j % k = j by rw [Nat.mul_comm]; exact Nat.div_add_mod j k] at this
      rw [Addr.add_lit, this]
      rw [List.getElem?_eq_getElem hjk] at g2
      exact g2
    · obtain ⟨b, _, hb⟩ := List.mem_flatMap.1 hu
      exact hE.one b u hb
    · intro v' w' h1 h2 _
      exact done v' w' h1 h2

/-- a block that holds one element, as the slice of it -/
theorem RdE.one (hE : Enc enc k) (W : World) (e : TypeId) (x : α) {n : Nat} (hn : n = W.heap.size) {cs : Array Value} (hc : cs = (enc x).toArray) : RdR (RE enc) k (W.alloc (.cells cs e)) (.slice (some ⟨n, 0, none⟩) 1 1) [x] := by
  subst hn hc
  refine .inr ⟨W.heap.size, 0, 1, rfl, by simp, by simp, by decide, by simp, fun i hi => ?_⟩
  obtain rfl : i = 0 := by simpa using hi
  refine ⟨enc x, hE.len x, fun j hj => ?_, rfl⟩
  simp only [World.cell?, heap_alloc_new]
  simp [List.getElem?_eq_getElem hj]
end
end Go.Proofs.YthgecojbggoniaaGreatDoor
namespace Go.Proofs.YthgecojbggoniaaGreatDoor
open Go.RowKit
set_option linter.unusedVariables false

theorem wpAnyH_weaken {P : Program} {md : Region.Mode} {ops : Array Oper} {Q : Exit → Act → World → Prop} {S S' : World → Prop} (hS : ∀ w, S' w → S w) : ∀ (fuel : Nat) (listed : Array Bool) (a : Act) (w : World),
    wpAnyH P md ops Q S' fuel listed a w → wpAnyH P md ops Q S fuel listed a w
  | 0, _, _, _, h => h
  | fuel + 1, _, _, _, h => ⟨h.1, fun i hi => wpOp_mono (fun a' w' h' => ⟨hS w' h'.1, wpAnyH_weaken hS fuel _ a' w' h'.2⟩) (h.2 i hi)⟩
/-- the condition turns to the world at hand -/
theorem wpAnyH_turn {P : Program} {md : Region.Mode} {ops : Array Oper} {Q : Exit → Act → World → Prop} {w0 w1 : World} (hg : Gr w0 w1) {fuel : Nat} {listed : Array Bool} {a : Act}
    (h : Gr w1 w1 → wpAnyH P md ops Q (fun w' => Gr w1 w') fuel listed a w1) : wpAnyH P md ops Q (fun w' => Gr w0 w') fuel listed a w1 :=
  wpAnyH_weaken (fun _ h => hg.trans h) fuel listed a w1 (h (Gr.refl _))
theorem cellRule {w : World} {p : Addr} {v : Value} (h : w.cell? p = some v) : ∀ w', Gr w w' → w'.cell? p = some v := fun _ hg => hg.cell' h
theorem Rule.turn {w0 w1 : World} {Q : World → Prop} (F : ∀ w', Gr w0 w' → Q w') (hg : Gr w0 w1) : ∀ w', Gr w1 w' → Q w' := fun w' h => F w' (hg.trans h)
end Go.Proofs.YthgecojbggoniaaGreatDoor
namespace Go.Proofs.YthgecojbggoniaaGreatDoor
open Go.RowKit
set_option linter.unusedVariables false
set_option linter.unusedSimpArgs false

theorem Fx.cellF {B : Nat} {a b : World} (h : Fx B a b) {p : Addr} {v : Value} (hb : p.block ≠ B) (hv : a.cell? p = some v) : b.cell? p = some v := by
  have hlt := World.block_lt_of_cell? a p hv
  have ho : a.heap[p.block]? = some a.heap[p.block] := Array.getElem?_eq_getElem hlt
  have h2 := h.blk _ _ ho hb
  simp only [World.cell?, ho, h2] at hv ⊢
  exact hv
theorem cellRuleF {B : Nat} {w : World} {p : Addr} {v : Value} (hb : p.block ≠ B) (h : w.cell? p = some v) : ∀ w', Fx B w w' → w'.cell? p = some v := fun _ hg => hg.cellF hb h
theorem Rule.turnF {B : Nat} {w0 w1 : World} {Q : World → Prop} (F : ∀ w', Fx B w0 w' → Q w') (hg : Fx B w0 w1) : ∀ w', Fx B w1 w' → Q w' := fun w' h => F w' (hg.trans h)
end Go.Proofs.YthgecojbggoniaaGreatDoor
namespace Go.Proofs.YthgecojbggoniaaGreatDoor
open Go.RowKit

theorem wpAnyT_turnF {P : Program} {md : Region.Mode} {ops : Array Oper} {Q : Exit → Act → World → Prop} {T : List Nat} {B : Nat} {w0 w1 : World} (hg : Fx B w0 w1) {fuel : Nat} {listed : Array Bool} {a : Act}
    (h : Fx B w1 w1 → wpAnyT P md ops Q (fun w' => Fx B w1 w') T fuel listed a w1) : wpAnyT P md ops Q (fun w' => Fx B w0 w') T fuel listed a w1 :=
  wpAnyT_weaken (fun _ h => hg.trans h) fuel listed a w1 (h (Fx.refl B _))
theorem wpAnyT_turn {P : Program} {md : Region.Mode} {ops : Array Oper} {Q : Exit → Act → World → Prop} {T : List Nat} {w0 w1 : World} (hg : Gr w0 w1) {fuel : Nat} {listed : Array Bool} {a : Act}
    (h : Gr w1 w1 → wpAnyT P md ops Q (fun w' => Gr w1 w') T fuel listed a w1) : wpAnyT P md ops Q (fun w' => Gr w0 w') T fuel listed a w1 :=
  wpAnyT_weaken (fun _ h => hg.trans h) fuel listed a w1 (h (Gr.refl _))
end Go.Proofs.YthgecojbggoniaaGreatDoor
