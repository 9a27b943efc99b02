/- What the rows stand on, part 08: SkpP, SkpA, Bulk, RegIn. Printed by bundle.py out of my texts. -/
import Derived.Test.YthgecojbggoniaaGreatDoorBe01
import Derived.Test.YthgecojbggoniaaGreatDoorBe06
import Derived.Test.YthgecojbggoniaaGreatDoorProg
import Derived.Maps.OwnSet
import Derived.Laws.Rows
import Derived.Laws.CopyOwn
import Derived.Test.YthgecojbggoniaaGreatDoorRows
import Derived.Deep.RegionHeld
import Derived.OrdersIn
import Derived.RangeFuncCalls
import Derived.RangeFuncNested
namespace Go.Proofs.YthgecojbggoniaaGreatDoor
open Go Go.RowKit
set_option maxRecDepth 100000
set_option linter.unusedVariables false
set_option linter.unusedSimpArgs false
set_option linter.unnecessarySimpa false

structure Nd where
  blk : Nat
  key : ByteArray
  val : ByteArray
  steps : Nat
def nxt (R : List Nd) (i : Nat) : Option Nd := R.find? (fun n => decide (i < n.steps))
def ptr : Option Nd → Value
  | none => .pointer none
  | some n => .pointer (some ⟨n.blk, 0, none⟩)
def nodeA (n : Nd) (f : Nat → Value) : Array Value := (Value.string n.key :: .string n.val :: .int .i64 n.steps :: (List.range 16).map f).toArray
def up (n : Nd) (R : List Nd) (i : Nat) : Value := if i < n.steps then ptr (nxt R i) else .pointer none
def ChainF (w : World) (X : Nat → List Nd) : List Nd → Prop
  | [] => True
  | m :: R => w.heap[m.blk]? = some (.cells (nodeA m (fun i => up m (R ++ X i) i)) 150) ∧ ChainF w X R
def hd0 (H : Nat) : Nd := ⟨H, ⟨#[]⟩, ⟨#[]⟩, 16⟩
/-- the last node that stands on step i -/
def lastAt (h : Nd) (P : List Nd) (i : Nat) : Nd := ((h :: P).reverse.find? (fun n => decide (i < n.steps))).getD h
theorem lastAt_of {h a : Nd} {P A R : List Nd} {i : Nat} (e : h :: P = A ++ a :: R) (ha : i < a.steps) (hR : ∀ n ∈ R, n.steps ≤ i) : lastAt h P i = a := by
  unfold lastAt
  rw [e, List.reverse_append, List.reverse_cons, List.append_assoc, List.find?_append]
  have h1 : R.reverse.find? (fun n => decide (i < n.steps)) = none := by
    rw [List.find?_eq_none]
    intro x hx
    have := hR x (List.mem_reverse.1 hx)
    simp
    omega
  rw [h1]
  simp [ha]
theorem lastAt_split {h : Nd} {P : List Nd} {i : Nat} (hi : i < h.steps) : ∃ A R, h :: P = A ++ lastAt h P i :: R ∧ i < (lastAt h P i).steps ∧ ∀ n ∈ R, n.steps ≤ i := by
  have key : ∀ (l : List Nd), (∃ n ∈ l, i < n.steps) → ∃ A a R, l = A ++ a :: R ∧ i < a.steps ∧ ∀ n ∈ R, n.steps ≤ i := by
    intro l
    induction l with
    | nil => rintro ⟨n, hn, _⟩; simp at hn
    | cons x r ih =>
      rintro ⟨n, hn, hs⟩
      by_cases hr : ∃ n ∈ r, i < n.steps
      · obtain ⟨A, a, R, e, h1, h2⟩ := ih hr
        exact ⟨x :: A, a, R, by rw [e]; rfl, h1, h2⟩
      · refine ⟨[], x, r, rfl, ?_, fun m hm => ?_⟩
        · rcases List.mem_cons.1 hn with rfl | hn
          · exact hs
          · exact absurd ⟨n, hn, hs⟩ hr
        · exact Nat.le_of_not_lt (fun hlt => hr ⟨m, hm, hlt⟩)
  obtain ⟨A, a, R, e, h1, h2⟩ := key (h :: P) ⟨h, by simp, hi⟩
  have := lastAt_of e h1 h2
  rw [this]
  exact ⟨A, R, e, h1, h2⟩
theorem chainF_app {w : World} {X : Nat → List Nd} {Q : List Nd} : ∀ {P : List Nd}, ChainF w X (P ++ Q) ↔ ChainF w (fun i => Q ++ X i) P ∧ ChainF w X Q
  | [] => by simp [ChainF]
  | m :: R => by
    simp only [List.cons_append, ChainF]
    rw [chainF_app (P := R)]
    simp only [List.append_assoc]
    constructor
    · rintro ⟨h1, h2, h3⟩; exact ⟨⟨h1, h2⟩, h3⟩
    · rintro ⟨⟨h1, h2⟩, h3⟩; exact ⟨h1, h2, h3⟩
theorem chainF_congr {w : World} {X Y : Nat → List Nd} (h : ∀ i, i < 16 → X i = Y i) : ∀ {P : List Nd}, ChainF w X P → ChainF w Y P
  | [], _ => trivial
  | m :: R, ⟨h1, h2⟩ => by
    refine ⟨?_, chainF_congr h h2⟩
    rw [h1]
    have : nodeA m (fun i => up m (R ++ X i) i) = nodeA m (fun i => up m (R ++ Y i) i) := by
      unfold nodeA
      congr 4
      refine List.map_congr_left (fun i hi => ?_)
      rw [h i (List.mem_range.1 hi)]
    rw [this]
theorem chainF_blk {w w' : World} {X : Nat → List Nd} : ∀ {P : List Nd}, ChainF w X P → (∀ n ∈ P, ∀ o, w.heap[n.blk]? = some o → w'.heap[n.blk]? = some o) → ChainF w' X P
  | [], _, _ => trivial
  | m :: R, ⟨h1, h2⟩, hb => ⟨hb m (by simp) _ h1, chainF_blk h2 (fun n hn => hb n (by simp [hn]))⟩
theorem chainF_at {w : World} {X : Nat → List Nd} {A R : List Nd} {a : Nd} (h : ChainF w X (A ++ a :: R)) : w.heap[a.blk]? = some (.cells (nodeA a (fun i => up a (R ++ X i) i)) 150) :=
  ((chainF_app.1 h).2).1
theorem nodeA_size (n : Nd) (f : Nat → Value) : (nodeA n f).size = 19 := by simp [nodeA]
theorem nodeA_get {n : Nd} {f : Nat → Value} {i : Nat} (hi : i < 16) : (nodeA n f)[3 + i]? = some (f i) := by
  rw [Nat.add_comm]
  simp [nodeA, hi]
/-- a node's step is set -/
theorem nodeA_set {n : Nd} {f g : Nat → Value} {j : Nat} (hj : j < 16) (h : ∀ i, i < 16 → i ≠ j → f i = g i) : (nodeA n f).set! (3 + j) (g j) = nodeA n g := by
  apply Array.ext_getElem?
  intro k
  rw [Array.set!_eq_setIfInBounds, Array.getElem?_setIfInBounds]
  by_cases hk : 3 + j = k
  · subst hk
    rw [if_pos rfl, if_pos (by rw [nodeA_size]; omega), nodeA_get hj]
  · rw [if_neg hk]
    by_cases h3 : k < 3
    · have : k = 0 ∨ k = 1 ∨ k = 2 := by omega
      rcases this with rfl | rfl | rfl <;> simp [nodeA]
    · by_cases h19 : k < 19
      · obtain ⟨i, rfl⟩ : ∃ i, k = 3 + i := ⟨k - 3, by omega⟩
        rw [nodeA_get (by omega), nodeA_get (by omega), h i (by omega) (by omega)]
      · rw [Array.getElem?_eq_none (by rw [nodeA_size]; omega), Array.getElem?_eq_none (by rw [nodeA_size]; omega)]
theorem nxt_app (A B : List Nd) (i : Nat) : nxt (A ++ B) i = (nxt A i).or (nxt B i) := by simp [nxt, List.find?_append]
theorem nxt_none {A : List Nd} {i : Nat} (h : ∀ n ∈ A, n.steps ≤ i) : nxt A i = none := by
  unfold nxt
  rw [List.find?_eq_none]
  intro x hx
  have := h x hx
  simp
  omega
theorem nxt_some {A : List Nd} {i : Nat} (h : ∃ n ∈ A, i < n.steps) : ∃ n, nxt A i = some n ∧ n ∈ A ∧ i < n.steps := by
  obtain ⟨n, hn, hs⟩ := h
  cases e : nxt A i with
  | none =>
    unfold nxt at e
    have := List.find?_eq_none.1 e n hn
    simp at this
    omega
  | some m =>
    unfold nxt at e
    exact ⟨m, rfl, List.mem_of_find?_eq_some e, by simpa using List.find?_some e⟩
/-- one step's list turns behind the last node of that step -/
theorem chainF_turn {w w' : World} {X Y : Nat → List Nd} {h : Nd} {P : List Nd} {j : Nat} (hc : ChainF w X (h :: P)) (hj : j < 16) (hhs : j < h.steps) (hXY : ∀ i, i < 16 → i ≠ j → X i = Y i)
    (hnd : ((h :: P).map (·.blk)).Nodup) (hset : ∀ A R, h :: P = A ++ lastAt h P j :: R → w'.heap[(lastAt h P j).blk]? = some (.cells ((nodeA (lastAt h P j) (fun i => up (lastAt h P j) (R ++ X i) i)).set! (3 + j) (ptr (nxt (Y j) j))) 150))
    (hoth : ∀ k o, k ≠ (lastAt h P j).blk → w.heap[k]? = some o → w'.heap[k]? = some o) : ChainF w' Y (h :: P) := by
  obtain ⟨A, R, e, hs, hR⟩ := lastAt_split (h := h) (P := P) hhs
  generalize lastAt h P j = a at *
  replace hset := hset A R e
  rw [e] at hc hnd ⊢
  obtain ⟨h1, h2, h3⟩ := chainF_app.1 hc
  have hblk : ∀ n, (n ∈ A ∨ n ∈ R) → n.blk ≠ a.blk := by
    intro n hn he
    rw [List.map_append, List.map_cons] at hnd
    rcases hn with hn | hn
    · exact (List.nodup_append.1 hnd).2.2 n.blk (List.mem_map_of_mem hn) a.blk (by simp) he
    · have := (List.nodup_cons.1 (List.nodup_append.1 hnd).2.1).1
      exact this (he ▸ List.mem_map_of_mem hn)
  refine chainF_app.2 ⟨?_, ?_, ?_⟩
  · -- ahead of it
    have : ∀ (B : List Nd), ChainF w (fun i => (a :: R) ++ X i) B → (∀ n ∈ B, n ∈ A) → ChainF w' (fun i => (a :: R) ++ Y i) B := by
      intro B
      induction B with
      | nil => intro _ _; trivial
      | cons m r ih =>
        rintro ⟨g1, g2⟩ hm
        refine ⟨?_, ih g2 (fun n hn => hm n (by simp [hn]))⟩
        rw [hoth _ _ (hblk m (.inl (hm m (by simp)))) g1]
        have : nodeA m (fun i => up m (r ++ (a :: R ++ X i)) i) = nodeA m (fun i => up m (r ++ (a :: R ++ Y i)) i) := by
          unfold nodeA
          congr 4
          refine List.map_congr_left (fun i hi => ?_)
          by_cases hij : i = j
          · subst hij
            have : ∃ n ∈ r ++ (a :: R), i < n.steps := ⟨a, by simp, hs⟩
            obtain ⟨n, hn, _, _⟩ := nxt_some this
            unfold up
            rw [← List.append_assoc, ← List.append_assoc, nxt_app, nxt_app (r ++ a :: R) (Y i), hn]
            rfl
          · rw [hXY i (List.mem_range.1 hi) hij]
        rw [this]
    exact this A h1 (fun n hn => hn)
  · rw [hset]
    congr 2
    have hval : ptr (nxt (Y j) j) = (fun i => up a (R ++ Y i) i) j := by
      simp only [up, if_pos hs]
      rw [nxt_app, nxt_none hR]
      rfl
    rw [hval]
    exact nodeA_set (g := fun i => up a (R ++ Y i) i) hj (fun i hi hij => by rw [hXY i hi hij])
  · have : ∀ (B : List Nd), ChainF w X B → (∀ n ∈ B, n ∈ R) → ChainF w' Y B := by
      intro B
      induction B with
      | nil => intro _ _; trivial
      | cons m r ih =>
        rintro ⟨g1, g2⟩ hm
        refine ⟨?_, ih g2 (fun n hn => hm n (by simp [hn]))⟩
        rw [hoth _ _ (hblk m (.inr (hm m (by simp)))) g1]
        have : nodeA m (fun i => up m (r ++ X i) i) = nodeA m (fun i => up m (r ++ Y i) i) := by
          unfold nodeA
          congr 4
          refine List.map_congr_left (fun i hi => ?_)
          by_cases hij : i = j
          · subst hij
            have := hR m (hm m (by simp))
            unfold up
            rw [if_neg (by omega), if_neg (by omega)]
          · rw [hXY i (List.mem_range.1 hi) hij]
        rw [this]
    exact this R h3 (fun n hn => hn)
end Go.Proofs.YthgecojbggoniaaGreatDoor
namespace Go.Proofs.YthgecojbggoniaaGreatDoor
open Go.RowKit
set_option maxRecDepth 100000
set_option linter.unusedVariables false
set_option linter.unusedSimpArgs false
set_option linter.unnecessarySimpa false

abbrev klt (a b : ByteArray) : Bool := Op.bytesLess a.toList b.toList
theorem bl_irrefl : ∀ s : List UInt8, Op.bytesLess s s = false
  | [] => rfl
  | a :: r => by simp [Op.bytesLess, bl_irrefl r]
theorem bl_trans : ∀ {a b c : List UInt8}, Op.bytesLess a b = true → Op.bytesLess b c = true → Op.bytesLess a c = true
  | [], [], _, h, _ => by simp [Op.bytesLess] at h
  | [], _ :: _, [], _, h => by simp [Op.bytesLess] at h
  | [], _ :: _, _ :: _, _, _ => rfl
  | _ :: _, [], _, h, _ => by simp [Op.bytesLess] at h
  | _ :: _, _ :: _, [], _, h => by simp [Op.bytesLess] at h
  | a :: x, b :: y, c :: z, h1, h2 => by
    simp only [Op.bytesLess, Bool.or_eq_true, Bool.and_eq_true, decide_eq_true_eq, beq_iff_eq] at h1 h2 ⊢
    rcases h1 with h1 | ⟨rfl, h1⟩
    · rcases h2 with h2 | ⟨rfl, h2⟩
      · exact .inl (UInt8.lt_trans h1 h2)
      · exact .inl h1
    · rcases h2 with h2 | ⟨rfl, h2⟩
      · exact .inl h2
      · exact .inr ⟨rfl, bl_trans h1 h2⟩
theorem bl_total : ∀ a b : List UInt8, Op.bytesLess a b = false → Op.bytesLess b a = false → a = b
  | [], [], _, _ => rfl
  | [], _ :: _, h, _ => by simp [Op.bytesLess] at h
  | _ :: _, [], _, h => by simp [Op.bytesLess] at h
  | a :: x, b :: y, h1, h2 => by
    simp only [Op.bytesLess, Bool.or_eq_false_iff, Bool.and_eq_false_iff, decide_eq_false_iff_not, beq_eq_false_iff_ne] at h1 h2
    have hab : a = b := by
      rcases Nat.lt_trichotomy a.toNat b.toNat with h | h | h
      · exact absurd (UInt8.lt_iff_toNat_lt.2 h) h1.1
      · exact UInt8.toNat_inj.1 h
      · exact absurd (UInt8.lt_iff_toNat_lt.2 h) h2.1
    subst hab
    have e1 : Op.bytesLess x y = false := by rcases h1.2 with h | h; exact absurd rfl h; exact h
    have e2 : Op.bytesLess y x = false := by rcases h2.2 with h | h; exact absurd rfl h; exact h
    rw [bl_total x y e1 e2]
/-- nodes below a key, and the others -/
def below (k : ByteArray) (L : List Nd) : List Nd := L.takeWhile (fun n => klt n.key k)
def above (k : ByteArray) (L : List Nd) : List Nd := L.dropWhile (fun n => klt n.key k)
abbrev Rising (L : List Nd) : Prop := L.Pairwise (fun a b => klt a.key b.key = true)
theorem below_above (k : ByteArray) (L : List Nd) : below k L ++ above k L = L := List.takeWhile_append_dropWhile
theorem below_lt {k : ByteArray} {L : List Nd} {n : Nd} (h : n ∈ below k L) : klt n.key k = true := by
  unfold below at h
  exact (List.all_eq_true.1 (List.all_takeWhile (p := fun n : Nd => klt n.key k) (l := L))) n h
theorem above_ge {k : ByteArray} : ∀ {L : List Nd}, Rising L → ∀ n ∈ above k L, klt n.key k = false
  | [], _, n, h => by simp [above] at h
  | m :: r, hr, n, h => by
    have hc := List.pairwise_cons.1 hr
    unfold above at h
    rw [List.dropWhile_cons] at h
    split at h
    · exact above_ge hc.2 n h
    · rename_i hm
      rcases List.mem_cons.1 h with rfl | h
      · simpa using hm
      · cases e : klt n.key k with
        | false => rfl
        | true => exact absurd (bl_trans (hc.1 n h) e) hm
structure SkipAt (lb H : Nat) (S : Nat → Prop) (L : List Nd) (w : World) : Prop where
  list : w.heap[lb]? = some (.cells #[.pointer (some ⟨H, 0, none⟩), .int .i64 L.length] 153)
  chain : ChainF w (fun _ => []) (hd0 H :: L)
  rise : Rising L
  nd : ((hd0 H :: L).map (·.blk)).Nodup
  steps : ∀ n ∈ L, 1 ≤ n.steps ∧ n.steps ≤ 16
  sl : S lb
  sn : ∀ n ∈ hd0 H :: L, S n.blk
def isSkip (o : Obj) : Prop := ∃ cs fz, o = .cells cs 150 fz ∨ o = .cells cs 153 fz
/-- what is no list's block, or outside of S, stays -/
structure FrT (S : Nat → Prop) (w w' : World) : Prop where
  os : w'.os = w.os
  tape : w'.tape = w.tape
  output : w'.output = w.output
  size : w.heap.size ≤ w'.heap.size
  blk : ∀ k o, w.heap[k]? = some o → (S k → ¬ isSkip o) → w'.heap[k]? = some o
theorem FrT.refl (S : Nat → Prop) (w : World) : FrT S w w := ⟨rfl, rfl, rfl, Nat.le_refl _, fun _ _ h _ => h⟩
theorem FrT.gr {S : Nat → Prop} {a b : World} (h : Gr a b) : FrT S a b := ⟨h.b.os, h.b.tape, h.b.output, h.b.size, fun _ _ ho _ => h.blk ho⟩
theorem FrT.trans {S S' : Nat → Prop} {a b c : World} (h : FrT S a b) (k : FrT S' b c) (hS : ∀ k, S' k → k < a.heap.size → S k) : FrT S a c :=
  ⟨k.os.trans h.os, k.tape.trans h.tape, k.output.trans h.output, Nat.le_trans h.size k.size, fun i o ho hn => k.blk i o (h.blk i o ho hn) (fun hs => hn (hS i hs (Array.getElem?_eq_some_iff.1 ho).1))⟩
theorem SkipAt.gr {lb H : Nat} {S : Nat → Prop} {L : List Nd} {w w' : World} (h : SkipAt lb H S L w) (hg : Gr w w') : SkipAt lb H S L w' :=
  { h with list := hg.blk h.list, chain := chainF_blk h.chain (fun n hn o ho => hg.blk ho) }
theorem SkipAt.mono {lb H : Nat} {S S' : Nat → Prop} {L : List Nd} {w : World} (h : SkipAt lb H S L w) (hS : ∀ k, S k → S' k) : SkipAt lb H S' L w :=
  { h with sl := hS _ h.sl, sn := fun n hn => hS _ (h.sn n hn) }
/-- other lists' work, other blocks' turns -/
theorem SkipAt.fr {lb H : Nat} {S S' : Nat → Prop} {L : List Nd} {w w' : World} (h : SkipAt lb H S L w) (hf : FrT S' w w') (hd : ∀ k, S k → ¬ S' k) : SkipAt lb H S L w' :=
  { h with list := hf.blk _ _ h.list (fun hs => absurd hs (hd _ h.sl)), chain := chainF_blk h.chain (fun n hn o ho => hf.blk _ _ ho (fun hs => absurd hs (hd _ (h.sn n hn)))) }
theorem idx_split {l : List Nat} {A R : List Nat} {a : Nat} (e : l = A ++ a :: R) (hn : l.Nodup) : l.idxOf a = A.length := by
  subst e
  have hm : a ∉ A := fun h => (List.nodup_append.1 hn).2.2 a h a (by simp) rfl
  induction A with
  | nil => simp
  | cons x r ih =>
    have hx : x ≠ a := fun e => hm (by simp [e])
    have hb : (x == a) = false := by simpa using hx
    rw [List.cons_append, List.idxOf_cons, hb, cond_false, ih (List.nodup_cons.1 (by simpa using hn)).2 (fun h => hm (by simp [h]))]
    rfl
def blkOf : Value → Nat
  | .pointer (some a) => a.block
  | _ => 0
def pAt (h : Nd) (P : List Nd) (j : Nat) : Value := ptr (some (lastAt h P j))
def outA (h : Nd) (P : List Nd) (k : Nat) : Array Value := ((List.range 16).map (fun j => if k ≤ j then pAt h P j else .pointer none)).toArray
theorem none_skip {lb H : Nat} {n : Int} {w : World} (h : w.heap[lb]? = some (.cells #[.pointer (some ⟨H, 0, none⟩), .int .i64 n] 153)) :
    Calls Tryz.prog 85 #[.pointer (some ⟨lb, 0, none⟩)] w fun e w' => e = .returned (.bool false) ∧ w = w' := by
  obtain ⟨k_0, k_1, g_0, g_1, l_0⟩ := blk2 h
  clear h
  go_enter Tryz.func85, Tryz.ntmps85
  go_wp2
  go_ret
  exact ⟨rfl, rfl⟩

theorem heap_alloc1 {w : World} {j : Nat} {o o' : Obj} (h : w.heap[j]? = some o) : (w.alloc o').heap[j]? = some o := (Gr.refl _).alloc _ |>.blk h
theorem cell_of {w : World} {b i : Nat} {cs : Array Value} {t : TypeId} {v : Value} (h : w.heap[b]? = some (.cells cs t)) (hv : cs[i]? = some v) : w.cell? ⟨b, i, none⟩ = some v := by
  simp only [World.cell?, h, hv]
  simp
theorem outA_get {h : Nd} {P : List Nd} {k j : Nat} (hj : j < 16) : (outA h P k)[j]? = some (if k ≤ j then pAt h P j else .pointer none) := by
  simp [outA, hj]
theorem outA_one (h : Nd) (P : List Nd) : (outA h P 0).all (·.oneCell') = true := by
  rw [Array.all_eq_true_iff_forall_mem]
  intro x hx
  simp only [outA, List.mem_toArray, List.mem_map] at hx
  obtain ⟨j, _, rfl⟩ := hx
  simp [pAt, ptr, Value.oneCell']
theorem outA_set {h : Nd} {P : List Nd} {j : Nat} (hj : j < 16) : (outA h P (j + 1)).setIfInBounds j (pAt h P j) = outA h P j := by
  apply Array.ext_getElem?
  intro i
  rw [Array.getElem?_setIfInBounds]
  by_cases hi : i < 16
  · rw [outA_get hi, outA_get hi]
    by_cases hji : j = i
    · subst hji
      simp [outA, hj]
    · rw [if_neg hji]
      by_cases h1 : j + 1 ≤ i
      · rw [if_pos h1, if_pos (by omega)]
      · rw [if_neg h1, if_neg (by omega)]
  · rw [if_neg (by omega), Array.getElem?_eq_none (by simp [outA]; omega), Array.getElem?_eq_none (by simp [outA]; omega)]
theorem up_at {a : Nd} {R : List Nd} {j : Nat} (h : j < a.steps) : up a R j = ptr (nxt R j) := by unfold up; rw [if_pos h]
theorem chain_cell {w : World} {X : Nat → List Nd} {A R : List Nd} {a : Nd} (h : ChainF w X (A ++ a :: R)) {j : Nat} (hj : j < 16) (hs : j < a.steps) : w.cell? ⟨a.blk, 3 + j, none⟩ = some (ptr (nxt (R ++ X j) j)) := by
  have h1 := chainF_at h
  simp only [World.cell?, h1]
  rw [nodeA_get hj, up_at hs]
  simp
theorem chain_key {w : World} {X : Nat → List Nd} {A R : List Nd} {a : Nd} (h : ChainF w X (A ++ a :: R)) : w.cell? ⟨a.blk, 0, none⟩ = some (.string a.key) := by
  have h1 := chainF_at h
  simp only [World.cell?, h1]
  simp [nodeA]
theorem outA_cell {w : World} {b k j : Nat} {h : Nd} {P : List Nd} {t : TypeId} (hb : w.heap[b]? = some (.cells (outA h P k) t)) (hj : j < 16) : w.cell? ⟨b, j, none⟩ = some (if k ≤ j then pAt h P j else .pointer none) := by
  simp only [World.cell?, hb]
  rw [outA_get hj]
  simp
theorem nxt_le {R : List Nd} {i : Nat} (h : nxt R i = none) : ∀ n ∈ R, n.steps ≤ i := by
  intro n hn
  unfold nxt at h
  have := List.find?_eq_none.1 h n hn
  simp at this
  exact this
theorem nxt_mem {R : List Nd} {i : Nat} {n : Nd} (h : nxt R i = some n) : n ∈ R ∧ i < n.steps := by
  unfold nxt at h
  exact ⟨List.mem_of_find?_eq_some h, by simpa using List.find?_some h⟩
theorem tail_mem {h a m : Nd} {P A R : List Nd} (e : h :: P = A ++ a :: R) (hm : m ∈ R) : m ∈ P := by
  cases A with
  | nil =>
    simp only [List.nil_append, List.cons.injEq] at e
    rw [e.2]; exact hm
  | cons x r =>
    simp only [List.cons_append, List.cons.injEq] at e
    rw [e.2]; simp [hm]
set_option maxHeartbeats 4000000 in
theorem ahead_any {lb H : Nat} {S : Nat → Prop} {L : List Nd} {w : World} (h : SkipAt lb H S L w) (key : ByteArray) :
    Calls Tryz.prog 84 #[.pointer (some ⟨lb, 0, none⟩), .string key] w fun e w' => e = .returned (.agg (outA (hd0 H) (below key L) 0)) ∧ Gr w w' := by
  have HH := Lib.hid h
  obtain ⟨k_0, k_1, g_0, g_1, l_0⟩ := blk2 h.list
  clear h
  go_enter Tryz.func84, Tryz.ntmps84
  go_wp2
  go_loopw [6, 7] (fun av iv wr => ∃ (k : Nat) (A R : List Nd) (a : Nd), iv = .int .i64 ((k : Int) - 1) ∧ k ≤ 16 ∧ av = .pointer (some ⟨a.blk, 0, none⟩) ∧ Hid (hd0 H :: below key L = A ++ a :: R) ∧ k ≤ a.steps ∧ Gr w wr ∧ Hid (wr.heap[w.heap.size + 1]? = some (.cells (outA (hd0 H) (below key L) k) 148)) ∧ Hid (wr.heap[w.heap.size]? = some (.cells #[.pointer none, .pointer none, .pointer none, .pointer none, .pointer none, .pointer none, .pointer none, .pointer none, .pointer none, .pointer none, .pointer none, .pointer none, .pointer none, .pointer none, .pointer none, .pointer none] 148))) (fun _ iv _ => (intOf iv + 1).toNat)
  case atStart =>
    refine ⟨16, [], below key L, hd0 H, rfl, Nat.le_refl _, rfl, Lib.hid rfl, by simp [hd0], (by repeat (first | (with_reducible exact Gr.refl _) | (with_reducible assumption) | (with_reducible refine Gr.alloc ?_ _) | (with_reducible refine Gr.drew ?_) | (with_reducible refine Gr.drewN ?_ _) | (with_reducible refine Gr.trans ?_ (by assumption)) | (with_reducible refine Gr.setCell ?_ (by first | exact Nat.le_refl _ | omega | (simp; done) | (simp; omega)) _))), Lib.hid ?_, Lib.hid (heap_alloc1 (heap_newn rfl))⟩
    rw [show outA (hd0 H) (below key L) 16 = #[.pointer none, .pointer none, .pointer none, .pointer none, .pointer none, .pointer none, .pointer none, .pointer none, .pointer none, .pointer none, .pointer none, .pointer none, .pointer none, .pointer none, .pointer none, .pointer none] from rfl]
    exact heap_newn (by simp)
  case round =>
    obtain ⟨k, A, R, a, rfl, hk, rfl, HE, hka, hg, HB5, HB4⟩ := hrel
    have HG := Lib.hid hg
    have HC := Lib.hid (HH.out.gr hg).chain
    have HLE : Hid (hd0 H :: L = (hd0 H :: below key L) ++ above key L) := Lib.hid (by rw [List.cons_append, below_above])
    clear hg
    by_cases hk0 : 0 < k
    · obtain ⟨j, rfl⟩ : ∃ j, k = j + 1 := ⟨k - 1, by omega⟩
      have hj16 : j < 16 := by omega
      rw [show (((j + 1 : Nat) : Int) - 1) = (j : Int) by omega]
      have hge : (0 : Int) ≤ j := by omega
      go_wp2
      go_loopw [6] (fun av wr2 => ∃ (A R : List Nd) (a : Nd), av = .pointer (some ⟨a.blk, 0, none⟩) ∧ Hid (hd0 H :: below key L = A ++ a :: R) ∧ j + 1 ≤ a.steps ∧ wr2 = wr) (fun av _ => (hd0 H :: below key L).length - ((hd0 H :: below key L).map (·.blk)).idxOf (blkOf av))
      case atStart => exact ⟨A, R, a, rfl, HE, hka, rfl⟩
      case round =>
        obtain ⟨A2, R2, a2, rfl, HE2, hka2, rfl⟩ := hrel
        have hc : ChainF wr (fun _ => []) (A2 ++ a2 :: (R2 ++ above key L)) := by have := HC.out; rw [HLE.out, HE2.out] at this; simpa using this
        have c1 := chain_cell hc hj16 (by omega)
        have b1 := outA_cell HB5.out (j := j) hj16
        have b2 : wr.frozen? ⟨w.heap.size + 1, j, none⟩ = false := by simp [World.frozen?, HB5.out]
        simp only [List.append_nil] at c1
        have HCc := Lib.hid hc
        clear hc
        cases hn : nxt (R2 ++ above key L) j with
        | none =>
          rw [hn] at c1
          have HN := Lib.hid hn
          clear hn
          have HLa : Hid (lastAt (hd0 H) (below key L) j = a2) := Lib.hid (lastAt_of HE2.out (by omega) (fun n hn => nxt_le HN.out n (by simp [hn])))
          simp only [ptr] at c1
          go_wp2
          go_roundw
          case rel =>
            refine ⟨j, A2, R2, a2, rfl, by omega, rfl, HE2, by omega, HG.out.setCell (by simp) _, Lib.hid ?_, Lib.hid ?_⟩
            · rw [heap_set HB5.out, show Value.pointer (some ⟨a2.blk, 0, none⟩) = pAt (hd0 H) (below key L) j by unfold pAt ptr; rw [HLa.out], outA_set hj16]
            · exact heap_set_other HB4.out _ _ (by simp)
          case measure => first | (simp [intOf]; done) | (simp [intOf]; omega)
        | some n =>
          rw [hn] at c1
          have hmem := nxt_mem hn
          obtain ⟨B, C, e⟩ := List.append_of_mem hmem.1
          have c2 := chain_key (A := A2 ++ a2 :: B) (R := C) (a := n) (X := fun _ => []) (w := wr) (by have := HCc.out; rw [e] at this; simpa using this)
          have HN := Lib.hid hn
          have HE3 := Lib.hid e
          have HM := Lib.hid hmem
          simp only [ptr] at c1
          clear hn hmem e
          cases hlt : klt n.key key with
          | true =>
            have hin : n ∈ R2 := by
              rcases List.mem_append.1 HM.out.1 with h | h
              · exact h
              · have := above_ge HH.out.rise n h
                rw [hlt] at this
                cases this
            obtain ⟨B2, C2, e2⟩ := List.append_of_mem hin
            have HE4 := Lib.hid e2
            have HIN := Lib.hid hin
            clear hin e2
            go_wp2
            go_roundw
            case rel => exact ⟨A2 ++ a2 :: B2, C2, n, rfl, Lib.hid (by rw [HE2.out, HE4.out]; simp), HM.out.2, by first | rfl | trivial⟩
            case measure =>
              have hnd : ((hd0 H :: below key L).map (·.blk)).Nodup := by
                have := HH.out.nd
                rw [HLE.out, List.map_append] at this
                exact (List.nodup_append.1 this).1
              have i1 := idx_split (l := (hd0 H :: below key L).map (·.blk)) (A := A2.map (·.blk)) (a := a2.blk) (R := R2.map (·.blk)) (by rw [HE2.out]; simp) hnd
              have i2 := idx_split (l := (hd0 H :: below key L).map (·.blk)) (A := (A2 ++ a2 :: B2).map (·.blk)) (a := n.blk) (R := C2.map (·.blk)) (by rw [HE2.out, HE4.out]; simp) hnd
              have i3 : (hd0 H :: below key L).length = A2.length + 1 + B2.length + 1 + C2.length := by rw [HE2.out, HE4.out]; simp; omega
              simp only [blkOf]
              rw [i1, i2, i3]
              simp
              omega
          | false =>
            have HLa : Hid (lastAt (hd0 H) (below key L) j = a2) := Lib.hid (lastAt_of HE2.out (by omega) (fun m hm => by
              by_cases hs : j < m.steps
              · obtain ⟨m2, h1, h2, h3⟩ := nxt_some (A := R2) ⟨m, hm, hs⟩
                have h4 := HN.out
                rw [nxt_app, h1] at h4
                have h6 : m2 = n := by simpa using h4
                subst h6
                have : m2 ∈ below key L := tail_mem HE2.out h2
                rw [below_lt this] at hlt
                cases hlt
              · omega))
            go_wp2
            go_roundw
            case rel =>
              refine ⟨j, A2, R2, a2, rfl, by omega, rfl, HE2, by omega, HG.out.setCell (by simp) _, Lib.hid ?_, Lib.hid ?_⟩
              · rw [heap_set HB5.out, show Value.pointer (some ⟨a2.blk, 0, none⟩) = pAt (hd0 H) (below key L) j by unfold pAt ptr; rw [HLa.out], outA_set hj16]
              · exact heap_set_other HB4.out _ _ (by simp)
            case measure => first | (simp [intOf]; done) | (simp [intOf]; omega)
    · obtain rfl : k = 0 := by omega
      rw [show (((0 : Nat) : Int) - 1) = -1 from rfl]
      have hS : (wr.setRow w.heap.size (outA (hd0 H) (below key L) 0)).heap[w.heap.size]? = some (.cells (outA (hd0 H) (below key L) 0) 148) := setRow_heap _ _ _ _ _ _ HB4.out
      have HS := Lib.hid hS
      have HGf : Hid (Gr w (wr.setRow w.heap.size (outA (hd0 H) (below key L) 0))) := Lib.hid ⟨below_setRow HG.out.b (Nat.le_refl _) _⟩
      have HI : Hid ((Tryz.prog.info? 148).map (·.size) = some (outA (hd0 H) (below key L) 0).size) := Lib.hid (by rw [show (outA (hd0 H) (below key L) 0).size = 16 from rfl]; kernel_rfl)
      have HA1 : Hid ((outA (hd0 H) (below key L) 0).all (·.oneCell') = true) := Lib.hid (outA_one _ _)
      have HZ : Hid ((#[.pointer none, .pointer none, .pointer none, .pointer none, .pointer none, .pointer none, .pointer none, .pointer none, .pointer none, .pointer none, .pointer none, .pointer none, .pointer none, .pointer none, .pointer none, .pointer none] : Array Value).size = (outA (hd0 H) (below key L) 0).size) := Lib.hid rfl
      clear hS
      go_wp2_with (first
        | (refine wpList_load_row (by rfl) _ _ (by rfl) _ (by rfl) _ _ _ _ HB5.out Tryz.underlying148 rfl HI.out ?_)
        | (refine wpList_store_row (by rfl) _ _ _ (by rfl) _ _ (by rfl) (by rfl) _ _ HB4.out HI.out HZ.out HA1.out ?_))
      refine bodyPost_ret (v := .agg (outA (hd0 H) (below key L) 0)) ?_ rfl (And.intro rfl HGf.out)
      exact results_cell_row rfl _ _ _ _ _ _ _ rfl HS.out Tryz.underlying148 rfl HI.out
end Go.Proofs.YthgecojbggoniaaGreatDoor
namespace Go.Proofs.YthgecojbggoniaaGreatDoor
open Go.RowKit
set_option linter.unusedVariables false

theorem bulk_one {H : Type} (d : DataW H) : 1 ≤ Rows.uptoBulk d := by
  cases d with
  | lit l => cases l <;> simp [Rows.uptoBulk]
  | nil => simp [Rows.uptoBulk]
  | ptr d => simp [Rows.uptoBulk]
  | slice elems spare => simp [Rows.uptoBulk]
  | agg parts => simp [Rows.uptoBulk]
  | iface t d => simp [Rows.uptoBulk]
  | map entries => simp [Rows.uptoBulk]
  | held h => simp [Rows.uptoBulk]
theorem bulk_length {H : Type} (l : List (DataW H)) : l.length ≤ Rows.uptoBulkAll l := by
  induction l with
  | nil => simp [Rows.uptoBulkAll]
  | cons x r ih => have := bulk_one x; simp only [Rows.uptoBulkAll, List.length_cons]; omega
theorem bulk_part {H : Type} {d : DataW H} {l : List (DataW H)} (h : d ∈ l) : Rows.uptoBulk d ≤ Rows.uptoBulkAll l := by
  induction l with
  | nil => cases h
  | cons x r ih =>
    simp only [Rows.uptoBulkAll]
    cases List.mem_cons.1 h with
    | inl e => subst e; omega
    | inr e => have := ih e; omega
mutual
theorem lens_bulk {H : Type} {M : Nat} : ∀ d : DataW H, Rows.uptoBulk d ≤ M → lensLe M d
  | .lit (.string b), h => by simp only [Rows.uptoBulk] at h; simp only [lensLe]; omega
  | .lit (.bool _), h => by simp [lensLe]
  | .lit .nil, h => by simp [lensLe]
  | .lit (.int _ _), h => by simp [lensLe]
  | .lit (.float _ _), h => by simp [lensLe]
  | .nil, h => by simp [lensLe]
  | .ptr d, h => by simp [lensLe]
  | .slice el sp, h => by
    simp only [Rows.uptoBulk] at h
    have := bulk_length el
    simp only [lensLe]
    exact ⟨by omega, lens_bulkL el (by omega)⟩
  | .agg l, h => by
    simp only [Rows.uptoBulk] at h
    simp only [lensLe]
    exact lens_bulkL l (by omega)
  | .iface _ d, h => by simp [lensLe]
  | .map _, h => by simp [lensLe]
  | .held _, h => by simp [lensLe]
theorem lens_bulkL {H : Type} {M : Nat} : ∀ l : List (DataW H), Rows.uptoBulkAll l ≤ M → lensLeL M l
  | [], _ => by simp [lensLeL]
  | d :: r, h => by
    simp only [Rows.uptoBulkAll] at h
    simp only [lensLeL]
    exact ⟨lens_bulk d (by omega), lens_bulkL r (by omega)⟩
end
theorem lens_of_bulk {H : Type} {l : List (DataW H)} (hk : Rows.uptoSmall H l = true) {j : Nat} {d : DataW H} (hd : l[j]? = some d) : lensLe 1048576 d := by
  have h := of_decide_eq_true hk
  exact lens_bulk d (Nat.le_trans (bulk_part (List.mem_of_getElem? hd)) h)
end Go.Proofs.YthgecojbggoniaaGreatDoor
namespace Go.Proofs.YthgecojbggoniaaGreatDoor
open Go.RowKit
set_option linter.unusedVariables false
set_option linter.unusedSimpArgs false

theorem operIn_of_wp (l n : Nat) {P : Program} {o : Oper} {a : Act} {w : World} {K : Act → World → Prop} {Q : Exit → Act → World → Prop} (hd : ∀ c, o.op ≠ .defer c) (h : o.wp P a w K Q) : o.wpIn (Fence.wide.inRound l) n P a w K Q := by
  unfold Oper.wpIn
  refine ⟨fun _ _ => trivial, ?_⟩
  rw [Oper.semAt_eq _ _ _ hd]
  unfold Oper.wp at h
  generalize (execOp a.eval o).run P w = r at h ⊢
  cases r with
  | ok x w' =>
    cases x with
    | value v => exact h
    | skip => exact h
    | defer d => exact h
    | enter f args => exact ⟨fun hh => (by cases hh), CallsIn.inRound l (callsIn_wide.2 h)⟩
    | row row args => exact ⟨fun hh => (by cases hh), fun c cs _ => let ⟨v, w', r, s⟩ := h c cs; ⟨v, w', r, stepsIn_wide.2 s⟩⟩
    | _ => exact h.elim
  | halt x w' =>
    cases x <;> first | exact h | exact h.elim
def noDefer (ops : Array Oper) : Bool := ops.toList.all (fun o => match o.op with | .defer _ => false | _ => true)
theorem noDefer_spec {ops : Array Oper} (h : noDefer ops = true) {i : Nat} {o : Oper} (hi : ops[i]? = some o) : ∀ c, o.op ≠ .defer c := by
  intro c e
  have hm : o ∈ ops.toList := by
    rw [← Array.getElem?_toList] at hi
    exact List.mem_of_getElem? hi
  have := List.all_eq_true.1 h o hm
  rw [e] at this
  cases this
theorem wpOpIn_of_wp (l n : Nat) {P : Program} {ops : Array Oper} {Q : Exit → Act → World → Prop} {i : Nat} {a : Act} {w : World} {K : Act → World → Prop} (hd : noDefer ops = true) (hL : ¬ LetsOut Q) (h : wpOp P ops Q i K a w) : wpOpIn (Fence.wide.inRound l) n P ops Q i K a w := by
  unfold wpOp at h
  unfold wpOpIn
  cases hi : ops[i]? with
  | none => rw [hi] at h; exact h
  | some o =>
    rw [hi] at h
    simp only at h ⊢
    split at h
    · rename_i hw
      rw [if_pos hw]
      exact operIn_of_wp l n (noDefer_spec hd hi) (h.resolve_right (fun h => hL h.2))
    · rename_i hw
      rw [if_neg hw]
      exact ⟨fun _ _ => trivial, h⟩
theorem wpAnyIn_of_wp (l n : Nat) {P : Program} {md : Region.Mode} {ops : Array Oper} {Q : Exit → Act → World → Prop} (hd : noDefer ops = true) (hL : ¬ LetsOut Q) : ∀ (fuel : Nat) (listed : Array Bool) (a : Act) (w : World), wpAny P md ops Q fuel listed a w → wpAnyIn (Fence.wide.inRound l) n P md ops Q fuel listed a w
  | 0, _, _, _, h => h
  | fuel + 1, _, _, _, h => ⟨h.1, fun i hi => wpOpIn_mono (fun a' w' h' => wpAnyIn_of_wp l n hd hL fuel _ a' w' h') (wpOpIn_of_wp l n hd hL (h.2 i hi))⟩
theorem wpIn_region_held_drew {l n : Nat} {P : Program} {ops : Array Oper} {Q : Exit → Act → World → Prop} {S : World → Prop} {id : Nat} {a : Act} {w : World} (hm : P.follows .mixedOrders = true) (hd : noDefer ops = true) (hL : ¬ LetsOut Q) (hS : S w.drew)
    (h : S w.drew → wpAnyH P .any ops Q S ops.size (Array.replicate ops.size false) a w.drew) : (Code.region id ops true).wpIn (Fence.wide.inRound l) n P Q a w :=
  wpIn_region_any hm (wpAnyIn_of_wp l n hd hL _ _ _ _ (wpAny_of_held _ _ _ _ (h hS)))
end Go.Proofs.YthgecojbggoniaaGreatDoor
