/- Layer 9: lists on steps, seen as rows in order. -/
import Derived.Test.YtocijpeminghoaaGreatDoorSkpE
namespace Go.Proofs.YtocijpeminghoaaGreatDoor
open Go.RowKit
set_option maxRecDepth 100000
set_option linter.unusedVariables false
set_option linter.unusedSimpArgs false
set_option linter.unnecessarySimpa false

abbrev Rw := ByteArray × ByteArray
def belowR (k : ByteArray) (R : List Rw) : List Rw := R.takeWhile (fun x => klt x.1 k)
def aboveR (k : ByteArray) (R : List Rw) : List Rw := R.dropWhile (fun x => klt x.1 k)
def restR (k : ByteArray) : List Rw → List Rw
  | [] => []
  | x :: r => if x.1.toList == k.toList then r else x :: r
def putR (k v : ByteArray) (R : List Rw) : List Rw := belowR k R ++ (k, v) :: restR k (aboveR k R)
def dropR (k : ByteArray) (R : List Rw) : List Rw := belowR k R ++ restR k (aboveR k R)
def getR (k : ByteArray) (R : List Rw) : Option ByteArray := match (aboveR k R).head? with | some x => if x.1.toList == k.toList then some x.2 else none | none => none
def rowsL (L : List Nd) : List Rw := L.map (fun n => (n.key, n.val))
theorem belowR_rows (k : ByteArray) (L : List Nd) : belowR k (rowsL L) = rowsL (below k L) := by
  unfold belowR rowsL below
  rw [List.takeWhile_map]
  rfl
theorem aboveR_rows (k : ByteArray) (L : List Nd) : aboveR k (rowsL L) = rowsL (above k L) := by
  unfold aboveR rowsL above
  rw [List.dropWhile_map]
  rfl
theorem getR_rows (k : ByteArray) (L : List Nd) : getR k (rowsL L) = (getN k L).map (·.val) := by
  unfold getR getN
  rw [aboveR_rows]
  cases above k L with
  | nil => rfl
  | cons x r =>
    simp only [rowsL, List.map_cons, List.head?_cons]
    split <;> rfl
theorem rest_none {k : ByteArray} {L : List Nd} (h : getN k L = none) : restR k (aboveR k (rowsL L)) = rowsL (above k L) := by
  rw [aboveR_rows]
  unfold getN at h
  cases ha : above k L with
  | nil => rfl
  | cons x r =>
    rw [ha] at h
    simp only [List.head?_cons] at h
    simp only [rowsL, List.map_cons, restR]
    split at h
    · cases h
    · rename_i hn
      rw [if_neg hn]
theorem rest_some {k : ByteArray} {L r : List Nd} {n : Nd} (h : getN k L = some n) (ha : above k L = n :: r) : restR k (aboveR k (rowsL L)) = rowsL r := by
  rw [aboveR_rows, ha]
  unfold getN at h
  rw [ha] at h
  simp only [List.head?_cons] at h
  simp only [rowsL, List.map_cons, restR]
  split at h
  · rename_i hn
    rw [if_pos hn]
  · cases h
theorem put_sk {lb H : Nat} {S : Nat → Prop} {L : List Nd} {w : World} (h : SkipAt lb H S L w) (key val : ByteArray) (s : Nat) (hs : 1 ≤ s ∧ s ≤ 16) (hlen : L.length < 4611686018427387904) :
    Calls Tryz.prog 32 #[.pointer (some ⟨lb, 0, none⟩), .string key, .string val, .int .i64 s] w fun e w' => e = .returned (.bool true) ∧ (∃ L', rowsL L' = putR key val (rowsL L) ∧ SkipAt lb H (UpS S w) L' w') ∧ FrT (UpS S w) w w' := by
  cases hn : getN key L with
  | none =>
    refine (put_new h key val s hs hlen hn).mono ?_
    rintro e w' ⟨rfl, ⟨nn, rfl, rfl, h1⟩, h2⟩
    refine ⟨rfl, ⟨_, ?_, h1⟩, h2⟩
    unfold putR
    rw [belowR_rows, rest_none hn]
    simp [rowsL]
  | some n =>
    refine (put_old h key val s hs hn).mono ?_
    rintro e w' ⟨rfl, ⟨r, hr, h1⟩, h2⟩
    refine ⟨rfl, ⟨_, ?_, h1.mono (fun _ h => .inl h)⟩, ⟨h2.os, h2.tape, h2.output, h2.size, fun k o ho hnS => h2.blk k o ho (fun hs => hnS (.inl hs))⟩⟩
    unfold putR
    rw [belowR_rows, rest_some hn hr]
    simp [rowsL, (getN_mem hn).2]
theorem drop_none {lb H : Nat} {S : Nat → Prop} {L : List Nd} {w : World} (h : SkipAt lb H S L w) (key : ByteArray) (hn : getN key L = none) :
    Calls Tryz.prog 31 #[.pointer (some ⟨lb, 0, none⟩), .string key] w fun e w' => e = .returned (.bool false) ∧ Gr w w' := by
  have hf := find_sk h key
  rw [hn] at hf
  have HF := Lib.hid hf
  clear h hn hf
  simp only [ptr] at HF
  go_enter Tryz.func31, Tryz.ntmps31
  go_wp2_with (first | (go_at_call 61; refine HF.out.mono ?_; rintro e w1 ⟨rfl, hg1⟩) | fail)
  go_ret
  exact ⟨rfl, hg1⟩
theorem drop_sk {lb H : Nat} {S : Nat → Prop} {L : List Nd} {w : World} (h : SkipAt lb H S L w) (key : ByteArray) (hlen : L.length < 4611686018427387904) :
    Calls Tryz.prog 31 #[.pointer (some ⟨lb, 0, none⟩), .string key] w fun e w' => (∃ b, e = .returned (.bool b)) ∧ (∃ L', rowsL L' = dropR key (rowsL L) ∧ SkipAt lb H S L' w') ∧ FrT S w w' := by
  cases hn : getN key L with
  | none =>
    refine (drop_none h key hn).mono ?_
    rintro e w' ⟨rfl, hg⟩
    refine ⟨⟨_, rfl⟩, ⟨L, ?_, h.gr hg⟩, FrT.gr hg⟩
    unfold dropR
    rw [belowR_rows, rest_none hn]
    simp only [rowsL, ← List.map_append, below_above]
  | some n =>
    refine (drop_some h key hlen hn).mono ?_
    rintro e w' ⟨rfl, ⟨r, hr, h1⟩, h2⟩
    refine ⟨⟨_, rfl⟩, ⟨_, ?_, h1⟩, h2⟩
    unfold dropR
    rw [belowR_rows, rest_some hn hr]
    simp [rowsL]
theorem new_skip (w : World) : Calls Tryz.prog 43 #[] w fun e w' => ∃ lb H, e = .returned (.pointer (some ⟨lb, 0, none⟩)) ∧ SkipAt lb H (fun k => w.heap.size ≤ k) [] w' ∧ Gr w w' := by
  go_enter Tryz.func43, Tryz.ntmps43
  go_wp2
  go_ret
  refine ⟨w.heap.size + 1, w.heap.size, rfl, ⟨heap_newn (by simp), ⟨heap_alloc1 (heap_newn rfl), trivial⟩, List.Pairwise.nil, by simp, by simp, by simp, by simp [hd0]⟩, ((Gr.refl w).alloc _).alloc _⟩
end Go.Proofs.YtocijpeminghoaaGreatDoor
