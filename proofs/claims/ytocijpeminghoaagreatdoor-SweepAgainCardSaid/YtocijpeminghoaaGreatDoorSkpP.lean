/- Layer 9: lists on steps: plain words and how they lie in memory. -/
import Derived.Test.YtocijpeminghoaaGreatDoorBase
import Derived.Test.YtocijpeminghoaaGreatDoorProg
import Derived.Maps.OwnSet
namespace Go.Proofs.YtocijpeminghoaaGreatDoor
open Go Go.RowKit
set_option maxRecDepth 100000
set_option linter.unusedVariables false
set_option linter.unusedSimpArgs false
set_option linter.unnecessarySimpa false

structure Nd where
  blk : Nat
  key : ByteArray
  val : ByteArray
  steps : Nat
def nxt (R : List Nd) (i : Nat) : Option Nd := R.find? (fun n => decide (i < n.steps))
def ptr : Option Nd → Value
  | none => .pointer none
  | some n => .pointer (some ⟨n.blk, 0, none⟩)
def nodeA (n : Nd) (f : Nat → Value) : Array Value := (Value.string n.key :: .string n.val :: .int .i64 n.steps :: (List.range 16).map f).toArray
def up (n : Nd) (R : List Nd) (i : Nat) : Value := if i < n.steps then ptr (nxt R i) else .pointer none
def ChainF (w : World) (X : Nat → List Nd) : List Nd → Prop
  | [] => True
  | m :: R => w.heap[m.blk]? = some (.cells (nodeA m (fun i => up m (R ++ X i) i)) 116) ∧ ChainF w X R
def hd0 (H : Nat) : Nd := ⟨H, ⟨#[]⟩, ⟨#[]⟩, 16⟩
theorem hd0_blk (H : Nat) : (hd0 H).blk = H := rfl
theorem hd0_steps (H : Nat) : (hd0 H).steps = 16 := rfl
/-- the last node that stands on step i -/
def lastAt (h : Nd) (P : List Nd) (i : Nat) : Nd := ((h :: P).reverse.find? (fun n => decide (i < n.steps))).getD h
theorem lastAt_of {h a : Nd} {P A R : List Nd} {i : Nat} (e : h :: P = A ++ a :: R) (ha : i < a.steps) (hR : ∀ n ∈ R, n.steps ≤ i) : lastAt h P i = a := by
  unfold lastAt
  rw [e, List.reverse_append, List.reverse_cons, List.append_assoc, List.find?_append]
  have h1 : R.reverse.find? (fun n => decide (i < n.steps)) = none := by
    rw [List.find?_eq_none]
    intro x hx
    have := hR x (List.mem_reverse.1 hx)
    simp
    omega
  rw [h1]
  simp [ha]
theorem lastAt_split {h : Nd} {P : List Nd} {i : Nat} (hi : i < h.steps) : ∃ A R, h :: P = A ++ lastAt h P i :: R ∧ i < (lastAt h P i).steps ∧ ∀ n ∈ R, n.steps ≤ i := by
  have key : ∀ (l : List Nd), (∃ n ∈ l, i < n.steps) → ∃ A a R, l = A ++ a :: R ∧ i < a.steps ∧ ∀ n ∈ R, n.steps ≤ i := by
    intro l
    induction l with
    | nil => rintro ⟨n, hn, _⟩; simp at hn
    | cons x r ih =>
      rintro ⟨n, hn, hs⟩
      by_cases hr : ∃ n ∈ r, i < n.steps
      · obtain ⟨A, a, R, e, h1, h2⟩ := ih hr
        exact ⟨x :: A, a, R, by rw [e]; rfl, h1, h2⟩
      · refine ⟨[], x, r, rfl, ?_, fun m hm => ?_⟩
        · rcases List.mem_cons.1 hn with rfl | hn
          · exact hs
          · exact absurd ⟨n, hn, hs⟩ hr
        · exact Nat.le_of_not_lt (fun hlt => hr ⟨m, hm, hlt⟩)
  obtain ⟨A, a, R, e, h1, h2⟩ := key (h :: P) ⟨h, by simp, hi⟩
  have := lastAt_of e h1 h2
  rw [this]
  exact ⟨A, R, e, h1, h2⟩
theorem chainF_app {w : World} {X : Nat → List Nd} {Q : List Nd} : ∀ {P : List Nd}, ChainF w X (P ++ Q) ↔ ChainF w (fun i => Q ++ X i) P ∧ ChainF w X Q
  | [] => by simp [ChainF]
  | m :: R => by
    simp only [List.cons_append, ChainF]
    rw [chainF_app (P := R)]
    simp only [List.append_assoc]
    constructor
    · rintro ⟨h1, h2, h3⟩; exact ⟨⟨h1, h2⟩, h3⟩
    · rintro ⟨⟨h1, h2⟩, h3⟩; exact ⟨h1, h2, h3⟩
theorem chainF_congr {w : World} {X Y : Nat → List Nd} (h : ∀ i, i < 16 → X i = Y i) : ∀ {P : List Nd}, ChainF w X P → ChainF w Y P
  | [], _ => trivial
  | m :: R, ⟨h1, h2⟩ => by
    refine ⟨?_, chainF_congr h h2⟩
    rw [h1]
    have : nodeA m (fun i => up m (R ++ X i) i) = nodeA m (fun i => up m (R ++ Y i) i) := by
      unfold nodeA
      congr 4
      refine List.map_congr_left (fun i hi => ?_)
      rw [h i (List.mem_range.1 hi)]
    rw [this]
theorem chainF_blk {w w' : World} {X : Nat → List Nd} : ∀ {P : List Nd}, ChainF w X P → (∀ n ∈ P, ∀ o, w.heap[n.blk]? = some o → w'.heap[n.blk]? = some o) → ChainF w' X P
  | [], _, _ => trivial
  | m :: R, ⟨h1, h2⟩, hb => ⟨hb m (by simp) _ h1, chainF_blk h2 (fun n hn => hb n (by simp [hn]))⟩
theorem chainF_at {w : World} {X : Nat → List Nd} {A R : List Nd} {a : Nd} (h : ChainF w X (A ++ a :: R)) : w.heap[a.blk]? = some (.cells (nodeA a (fun i => up a (R ++ X i) i)) 116) :=
  ((chainF_app.1 h).2).1
theorem nodeA_size (n : Nd) (f : Nat → Value) : (nodeA n f).size = 19 := by simp [nodeA]
theorem nodeA_get {n : Nd} {f : Nat → Value} {i : Nat} (hi : i < 16) : (nodeA n f)[3 + i]? = some (f i) := by
  rw [Nat.add_comm]
  simp [nodeA, hi]
/-- a node's step is set -/
theorem nodeA_set {n : Nd} {f g : Nat → Value} {j : Nat} (hj : j < 16) (h : ∀ i, i < 16 → i ≠ j → f i = g i) : (nodeA n f).set! (3 + j) (g j) = nodeA n g := by
  apply Array.ext_getElem?
  intro k
  rw [Array.set!_eq_setIfInBounds, Array.getElem?_setIfInBounds]
  by_cases hk : 3 + j = k
  · subst hk
    rw [if_pos rfl, if_pos (by rw [nodeA_size]; omega), nodeA_get hj]
  · rw [if_neg hk]
    by_cases h3 : k < 3
    · have : k = 0 ∨ k = 1 ∨ k = 2 := by omega
      rcases this with rfl | rfl | rfl <;> simp [nodeA]
    · by_cases h19 : k < 19
      · obtain ⟨i, rfl⟩ : ∃ i, k = 3 + i := ⟨k - 3, by omega⟩
        rw [nodeA_get (by omega), nodeA_get (by omega), h i (by omega) (by omega)]
      · rw [Array.getElem?_eq_none (by rw [nodeA_size]; omega), Array.getElem?_eq_none (by rw [nodeA_size]; omega)]
theorem nxt_app (A B : List Nd) (i : Nat) : nxt (A ++ B) i = (nxt A i).or (nxt B i) := by simp [nxt, List.find?_append]
theorem nxt_none {A : List Nd} {i : Nat} (h : ∀ n ∈ A, n.steps ≤ i) : nxt A i = none := by
  unfold nxt
  rw [List.find?_eq_none]
  intro x hx
  have := h x hx
  simp
  omega
theorem nxt_some {A : List Nd} {i : Nat} (h : ∃ n ∈ A, i < n.steps) : ∃ n, nxt A i = some n ∧ n ∈ A ∧ i < n.steps := by
  obtain ⟨n, hn, hs⟩ := h
  cases e : nxt A i with
  | none =>
    unfold nxt at e
    have := List.find?_eq_none.1 e n hn
    simp at this
    omega
  | some m =>
    unfold nxt at e
    exact ⟨m, rfl, List.mem_of_find?_eq_some e, by simpa using List.find?_some e⟩
/-- one step's list turns behind the last node of that step -/
theorem chainF_turn {w w' : World} {X Y : Nat → List Nd} {h : Nd} {P : List Nd} {j : Nat} (hc : ChainF w X (h :: P)) (hj : j < 16) (hhs : j < h.steps) (hXY : ∀ i, i < 16 → i ≠ j → X i = Y i)
    (hnd : ((h :: P).map (·.blk)).Nodup) (hset : ∀ A R, h :: P = A ++ lastAt h P j :: R → w'.heap[(lastAt h P j).blk]? = some (.cells ((nodeA (lastAt h P j) (fun i => up (lastAt h P j) (R ++ X i) i)).set! (3 + j) (ptr (nxt (Y j) j))) 116))
    (hoth : ∀ k o, k ≠ (lastAt h P j).blk → w.heap[k]? = some o → w'.heap[k]? = some o) : ChainF w' Y (h :: P) := by
  obtain ⟨A, R, e, hs, hR⟩ := lastAt_split (h := h) (P := P) hhs
  generalize lastAt h P j = a at *
  replace hset := hset A R e
  rw [e] at hc hnd ⊢
  obtain ⟨h1, h2, h3⟩ := chainF_app.1 hc
  have hblk : ∀ n, (n ∈ A ∨ n ∈ R) → n.blk ≠ a.blk := by
    intro n hn he
    rw [List.map_append, List.map_cons] at hnd
    rcases hn with hn | hn
    · exact (List.nodup_append.1 hnd).2.2 n.blk (List.mem_map_of_mem hn) a.blk (by simp) he
    · have := (List.nodup_cons.1 (List.nodup_append.1 hnd).2.1).1
      exact this (he ▸ List.mem_map_of_mem hn)
  refine chainF_app.2 ⟨?_, ?_, ?_⟩
  · -- ahead of it
    have : ∀ (B : List Nd), ChainF w (fun i => (a :: R) ++ X i) B → (∀ n ∈ B, n ∈ A) → ChainF w' (fun i => (a :: R) ++ Y i) B := by
      intro B
      induction B with
      | nil => intro _ _; trivial
      | cons m r ih =>
        rintro ⟨g1, g2⟩ hm
        refine ⟨?_, ih g2 (fun n hn => hm n (by simp [hn]))⟩
        rw [hoth _ _ (hblk m (.inl (hm m (by simp)))) g1]
        have : nodeA m (fun i => up m (r ++ (a :: R ++ X i)) i) = nodeA m (fun i => up m (r ++ (a :: R ++ Y i)) i) := by
          unfold nodeA
          congr 4
          refine List.map_congr_left (fun i hi => ?_)
          by_cases hij : i = j
          · subst hij
            have : ∃ n ∈ r ++ (a :: R), i < n.steps := ⟨a, by simp, hs⟩
            obtain ⟨n, hn, _, _⟩ := nxt_some this
            unfold up
            rw [← List.append_assoc, ← List.append_assoc, nxt_app, nxt_app (r ++ a :: R) (Y i), hn]
            rfl
          · rw [hXY i (List.mem_range.1 hi) hij]
        rw [this]
    exact this A h1 (fun n hn => hn)
  · rw [hset]
    congr 2
    have hval : ptr (nxt (Y j) j) = (fun i => up a (R ++ Y i) i) j := by
      simp only [up, if_pos hs]
      rw [nxt_app, nxt_none hR]
      rfl
    rw [hval]
    exact nodeA_set (g := fun i => up a (R ++ Y i) i) hj (fun i hi hij => by rw [hXY i hi hij])
  · have : ∀ (B : List Nd), ChainF w X B → (∀ n ∈ B, n ∈ R) → ChainF w' Y B := by
      intro B
      induction B with
      | nil => intro _ _; trivial
      | cons m r ih =>
        rintro ⟨g1, g2⟩ hm
        refine ⟨?_, ih g2 (fun n hn => hm n (by simp [hn]))⟩
        rw [hoth _ _ (hblk m (.inr (hm m (by simp)))) g1]
        have : nodeA m (fun i => up m (r ++ X i) i) = nodeA m (fun i => up m (r ++ Y i) i) := by
          unfold nodeA
          congr 4
          refine List.map_congr_left (fun i hi => ?_)
          by_cases hij : i = j
          · subst hij
            have := hR m (hm m (by simp))
            unfold up
            rw [if_neg (by omega), if_neg (by omega)]
          · rw [hXY i (List.mem_range.1 hi) hij]
        rw [this]
    exact this R h3 (fun n hn => hn)
end Go.Proofs.YtocijpeminghoaaGreatDoor
