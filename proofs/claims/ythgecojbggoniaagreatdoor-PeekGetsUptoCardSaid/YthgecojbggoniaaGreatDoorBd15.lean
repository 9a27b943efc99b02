/- What the rows stand on, part 15: CelU, SkpF, RegT, CelX. Printed by bundle.py out of my texts. -/
import Derived.Test.YthgecojbggoniaaGreatDoorBd01
import Derived.Test.YthgecojbggoniaaGreatDoorBd02
import Derived.Test.YthgecojbggoniaaGreatDoorBd05
import Derived.Test.YthgecojbggoniaaGreatDoorBd09
import Derived.Test.YthgecojbggoniaaGreatDoorBd13
import Derived.Test.YthgecojbggoniaaGreatDoorBd14
import Derived.RegionTactic
import Derived.ChangeAlike
import Derived.Deep.RegionHeld
import Derived.StillTail
namespace Go.Proofs.YthgecojbggoniaaGreatDoor
open Go.RowKit
set_option maxRecDepth 100000
set_option linter.unusedVariables false
set_option linter.unusedSimpArgs false

theorem RdR.form {α : Type} {R : World → List Value → α → Prop} {k : Nat} {w : World} {v : Value} {l : List α} (h : RdR R k w v l) : ∃ q c, v = .slice q l.length c := by
  rcases h with ⟨rfl, q, c, rfl, _⟩ | ⟨blk, off, cap, rfl, _⟩
  · exact ⟨q, c, rfl⟩
  · exact ⟨_, _, rfl⟩
theorem RdC.at {w : World} {v : Value} {l : List Chg} (h : RdC w v l) {k : Nat} (hk : k < l.length) : ∃ blk off cap, v = .slice (some ⟨blk, off, none⟩) l.length cap ∧ l.length ≤ cap ∧ cap ≤ maxLen ∧
    w.cell? ⟨blk, off + k * 3, none⟩ = some (.int .i64 l[k].seq) ∧ w.cell? ⟨blk, off + k * 3 + 1, none⟩ = some (.string l[k].value) ∧ w.cell? ⟨blk, off + k * 3 + 2, none⟩ = some (.bool l[k].del) := by
  rcases h with ⟨rfl, _⟩ | ⟨blk, off, cap, h1, h2, h3, h4, h5, h6⟩
  · simp at hk
  · exact ⟨blk, off, cap, h1, h3, h4, RdC.cells h6 hk⟩

end Go.Proofs.YthgecojbggoniaaGreatDoor
namespace Go.Proofs.YthgecojbggoniaaGreatDoor
open Go.RowKit
set_option maxRecDepth 100000
set_option linter.unusedVariables false
set_option linter.unusedSimpArgs false
set_option linter.unnecessarySimpa false

abbrev Rw := ByteArray × ByteArray
def belowR (k : ByteArray) (R : List Rw) : List Rw := R.takeWhile (fun x => klt x.1 k)
def aboveR (k : ByteArray) (R : List Rw) : List Rw := R.dropWhile (fun x => klt x.1 k)
def restR (k : ByteArray) : List Rw → List Rw
  | [] => []
  | x :: r => if x.1.toList == k.toList then r else x :: r
def putR (k v : ByteArray) (R : List Rw) : List Rw := belowR k R ++ (k, v) :: restR k (aboveR k R)
def dropR (k : ByteArray) (R : List Rw) : List Rw := belowR k R ++ restR k (aboveR k R)
def getR (k : ByteArray) (R : List Rw) : Option ByteArray := match (aboveR k R).head? with | some x => if x.1.toList == k.toList then some x.2 else none | none => none
def rowsL (L : List Nd) : List Rw := L.map (fun n => (n.key, n.val))
theorem belowR_rows (k : ByteArray) (L : List Nd) : belowR k (rowsL L) = rowsL (below k L) := by
  unfold belowR rowsL below
  rw [List.takeWhile_map]
  rfl
theorem aboveR_rows (k : ByteArray) (L : List Nd) : aboveR k (rowsL L) = rowsL (above k L) := by
  unfold aboveR rowsL above
  rw [List.dropWhile_map]
  rfl
theorem getR_rows (k : ByteArray) (L : List Nd) : getR k (rowsL L) = (getN k L).map (·.val) := by
  unfold getR getN
  rw [aboveR_rows]
  cases above k L with
  | nil => rfl
  | cons x r =>
    simp only [rowsL, List.map_cons, List.head?_cons]
    split <;> rfl
theorem rest_none {k : ByteArray} {L : List Nd} (h : getN k L = none) : restR k (aboveR k (rowsL L)) = rowsL (above k L) := by
  rw [aboveR_rows]
  unfold getN at h
  cases ha : above k L with
  | nil => rfl
  | cons x r =>
    rw [ha] at h
    simp only [List.head?_cons] at h
    simp only [rowsL, List.map_cons, restR]
    split at h
    · cases h
    · rename_i hn
      rw [if_neg hn]
theorem rest_some {k : ByteArray} {L r : List Nd} {n : Nd} (h : getN k L = some n) (ha : above k L = n :: r) : restR k (aboveR k (rowsL L)) = rowsL r := by
  rw [aboveR_rows, ha]
  unfold getN at h
  rw [ha] at h
  simp only [List.head?_cons] at h
  simp only [rowsL, List.map_cons, restR]
  split at h
  · rename_i hn
    rw [if_pos hn]
  · cases h
theorem put_sk {lb H : Nat} {S : Nat → Prop} {L : List Nd} {w : World} (h : SkipAt lb H S L w) (key val : ByteArray) (s : Nat) (hs : 1 ≤ s ∧ s ≤ 16) (hlen : L.length < 4611686018427387904) :
    Calls Tryz.prog 56 #[.pointer (some ⟨lb, 0, none⟩), .string key, .string val, .int .i64 s] w fun e w' => e = .returned (.bool true) ∧ (∃ L', rowsL L' = putR key val (rowsL L) ∧ SkipAt lb H (UpS S w) L' w') ∧ FrT (UpS S w) w w' := by
  cases hn : getN key L with
  | none =>
    refine (put_new h key val s hs hlen hn).mono ?_
    rintro e w' ⟨rfl, ⟨nn, rfl, rfl, h1⟩, h2⟩
    refine ⟨rfl, ⟨_, ?_, h1⟩, h2⟩
    unfold putR
    rw [belowR_rows, rest_none hn]
    simp [rowsL]
  | some n =>
    refine (put_old h key val s hs hn).mono ?_
    rintro e w' ⟨rfl, ⟨r, hr, h1⟩, h2⟩
    refine ⟨rfl, ⟨_, ?_, h1.mono (fun _ h => .inl h)⟩, ⟨h2.os, h2.tape, h2.output, h2.size, fun k o ho hnS => h2.blk k o ho (fun hs => hnS (.inl hs))⟩⟩
    unfold putR
    rw [belowR_rows, rest_some hn hr]
    simp [rowsL, (getN_mem hn).2]
theorem drop_none {lb H : Nat} {S : Nat → Prop} {L : List Nd} {w : World} (h : SkipAt lb H S L w) (key : ByteArray) (hn : getN key L = none) :
    Calls Tryz.prog 55 #[.pointer (some ⟨lb, 0, none⟩), .string key] w fun e w' => e = .returned (.bool false) ∧ Gr w w' := by
  have hf := find_sk h key
  rw [hn] at hf
  have HF := Lib.hid hf
  clear h hn hf
  simp only [ptr] at HF
  go_enter Tryz.func55, Tryz.ntmps55
  go_wp2_with (first | (go_at_call 81; refine HF.out.mono ?_; rintro e w1 ⟨rfl, hg1⟩) | fail)
  go_ret
  exact ⟨rfl, hg1⟩
theorem drop_sk {lb H : Nat} {S : Nat → Prop} {L : List Nd} {w : World} (h : SkipAt lb H S L w) (key : ByteArray) (hlen : L.length < 4611686018427387904) :
    Calls Tryz.prog 55 #[.pointer (some ⟨lb, 0, none⟩), .string key] w fun e w' => (∃ b, e = .returned (.bool b)) ∧ (∃ L', rowsL L' = dropR key (rowsL L) ∧ SkipAt lb H S L' w') ∧ FrT S w w' := by
  cases hn : getN key L with
  | none =>
    refine (drop_none h key hn).mono ?_
    rintro e w' ⟨rfl, hg⟩
    refine ⟨⟨_, rfl⟩, ⟨L, ?_, h.gr hg⟩, FrT.gr hg⟩
    unfold dropR
    rw [belowR_rows, rest_none hn]
    simp only [rowsL, ← List.map_append, below_above]
  | some n =>
    refine (drop_some h key hlen hn).mono ?_
    rintro e w' ⟨rfl, ⟨r, hr, h1⟩, h2⟩
    refine ⟨⟨_, rfl⟩, ⟨_, ?_, h1⟩, h2⟩
    unfold dropR
    rw [belowR_rows, rest_some hn hr]
    simp [rowsL]
theorem new_skip (w : World) : Calls Tryz.prog 53 #[] w fun e w' => ∃ lb H, e = .returned (.pointer (some ⟨lb, 0, none⟩)) ∧ SkipAt lb H (fun k => w.heap.size ≤ k) [] w' ∧ Gr w w' := by
  go_enter Tryz.func53, Tryz.ntmps53
  go_wp2
  go_ret
  refine ⟨w.heap.size + 1, w.heap.size, rfl, ⟨heap_newn (by simp), ⟨heap_alloc1 (heap_newn rfl), trivial⟩, List.Pairwise.nil, by simp, by simp, by simp, by simp [hd0]⟩, ((Gr.refl w).alloc _).alloc _⟩
end Go.Proofs.YthgecojbggoniaaGreatDoor
namespace Go.Proofs.YthgecojbggoniaaGreatDoor
open Go.RowKit
set_option linter.unusedVariables false

theorem wpAnyH_weaken {P : Program} {md : Region.Mode} {ops : Array Oper} {Q : Exit → Act → World → Prop} {S S' : World → Prop} (hS : ∀ w, S' w → S w) : ∀ (fuel : Nat) (listed : Array Bool) (a : Act) (w : World),
    wpAnyH P md ops Q S' fuel listed a w → wpAnyH P md ops Q S fuel listed a w
  | 0, _, _, _, h => h
  | fuel + 1, _, _, _, h => ⟨h.1, fun i hi => wpOp_mono (fun a' w' h' => ⟨hS w' h'.1, wpAnyH_weaken hS fuel _ a' w' h'.2⟩) (h.2 i hi)⟩
/-- the condition turns to the world at hand -/
theorem wpAnyH_turn {P : Program} {md : Region.Mode} {ops : Array Oper} {Q : Exit → Act → World → Prop} {w0 w1 : World} (hg : Gr w0 w1) {fuel : Nat} {listed : Array Bool} {a : Act}
    (h : Gr w1 w1 → wpAnyH P md ops Q (fun w' => Gr w1 w') fuel listed a w1) : wpAnyH P md ops Q (fun w' => Gr w0 w') fuel listed a w1 :=
  wpAnyH_weaken (fun _ h => hg.trans h) fuel listed a w1 (h (Gr.refl _))
theorem cellRule {w : World} {p : Addr} {v : Value} (h : w.cell? p = some v) : ∀ w', Gr w w' → w'.cell? p = some v := fun _ hg => hg.cell' h
theorem Rule.turn {w0 w1 : World} {Q : World → Prop} (F : ∀ w', Gr w0 w' → Q w') (hg : Gr w0 w1) : ∀ w', Gr w1 w' → Q w' := fun w' h => F w' (hg.trans h)
end Go.Proofs.YthgecojbggoniaaGreatDoor
namespace Go.Proofs.YthgecojbggoniaaGreatDoor
open Go.RowKit
set_option linter.unusedVariables false
set_option linter.unusedSimpArgs false

theorem Fx.cellF {B : Nat} {a b : World} (h : Fx B a b) {p : Addr} {v : Value} (hb : p.block ≠ B) (hv : a.cell? p = some v) : b.cell? p = some v := by
  have hlt := World.block_lt_of_cell? a p hv
  have ho : a.heap[p.block]? = some a.heap[p.block] := Array.getElem?_eq_getElem hlt
  have h2 := h.blk _ _ ho hb
  simp only [World.cell?, ho, h2] at hv ⊢
  exact hv
theorem cellRuleF {B : Nat} {w : World} {p : Addr} {v : Value} (hb : p.block ≠ B) (h : w.cell? p = some v) : ∀ w', Fx B w w' → w'.cell? p = some v := fun _ hg => hg.cellF hb h
theorem Rule.turnF {B : Nat} {w0 w1 : World} {Q : World → Prop} (F : ∀ w', Fx B w0 w' → Q w') (hg : Fx B w0 w1) : ∀ w', Fx B w1 w' → Q w' := fun w' h => F w' (hg.trans h)
end Go.Proofs.YthgecojbggoniaaGreatDoor
namespace Go.Proofs.YthgecojbggoniaaGreatDoor
open Go.RowKit

theorem wpAnyT_turnF {P : Program} {md : Region.Mode} {ops : Array Oper} {Q : Exit → Act → World → Prop} {T : List Nat} {B : Nat} {w0 w1 : World} (hg : Fx B w0 w1) {fuel : Nat} {listed : Array Bool} {a : Act}
    (h : Fx B w1 w1 → wpAnyT P md ops Q (fun w' => Fx B w1 w') T fuel listed a w1) : wpAnyT P md ops Q (fun w' => Fx B w0 w') T fuel listed a w1 :=
  wpAnyT_weaken (fun _ h => hg.trans h) fuel listed a w1 (h (Fx.refl B _))
theorem wpAnyT_turn {P : Program} {md : Region.Mode} {ops : Array Oper} {Q : Exit → Act → World → Prop} {T : List Nat} {w0 w1 : World} (hg : Gr w0 w1) {fuel : Nat} {listed : Array Bool} {a : Act}
    (h : Gr w1 w1 → wpAnyT P md ops Q (fun w' => Gr w1 w') T fuel listed a w1) : wpAnyT P md ops Q (fun w' => Gr w0 w') T fuel listed a w1 :=
  wpAnyT_weaken (fun _ h => hg.trans h) fuel listed a w1 (h (Gr.refl _))
end Go.Proofs.YthgecojbggoniaaGreatDoor
namespace Go.Proofs.YthgecojbggoniaaGreatDoor
open Go.RowKit
set_option maxRecDepth 100000
set_option linter.unusedVariables false
set_option linter.unusedSimpArgs false

/-- ReadVersion -/
theorem takeDown_cases (l : List UInt8) : (takeDownL l).2.2.2 = 0 ∨ ((takeDownL l).2.2.2 = 3 ∨ (takeDownL l).2.2.2 = 4) := by
  unfold takeDownL
  split
  · simp
  · split <;> simp
set_option maxHeartbeats 2000000 in
theorem readVersion_any (s : ByteArray) (hs : s.size ≤ 140737488355328) (w : World) : Calls Tryz.prog 91 #[.string s] w fun e w' =>
    e = .returned (.tuple #[.string ⟨(readVersionR s.data.toList).1.toArray⟩, .agg #[.int .i64 (readVersionR s.data.toList).2.1, .int .i64 (readVersionR s.data.toList).2.2.1], .int .i64 (readVersionR s.data.toList).2.2.2]) ∧ Gr w w' := by
  have HT := Lib.hid (fun w => whose_any s hs 118 w)
  have HU : Hid (readVersionR s.data.toList = if (whoseR s.data.toList 118).2.2 = true ∧ (takeDownL (whoseR s.data.toList 118).2.1).2.2.2 = 0 ∧ (takeDownL (whoseR s.data.toList 118).2.1).2.2.1 = [] then ((whoseR s.data.toList 118).1, (takeDownL (whoseR s.data.toList 118).2.1).1, (takeDownL (whoseR s.data.toList 118).2.1).2.1, 0) else ([], 0, 0, 4)) := Lib.hid rfl
  generalize (whoseR s.data.toList 118) = r at HT HU
  obtain ⟨k, rest, ok⟩ := r
  have HD := Lib.hid (fun w => takeDown_any ⟨rest.toArray⟩ w)
  rw [show (⟨rest.toArray⟩ : ByteArray).data.toList = rest by simp] at HD
  have HC := Lib.hid (takeDown_cases rest)
  replace HU : Hid (readVersionR s.data.toList = if ok = true ∧ (takeDownL rest).2.2.2 = 0 ∧ (takeDownL rest).2.2.1 = [] then (k, (takeDownL rest).1, (takeDownL rest).2.1, 0) else ([], 0, 0, 4)) := HU
  generalize takeDownL rest = d at HD HU HC
  obtain ⟨a, b, more, e⟩ := d
  have hk0 : (w.alloc (.cells #[.int .i64 0, .int .i64 0] 26)).heap[w.heap.size]? = some (.cells #[.int .i64 0, .int .i64 0] 26) := heap_alloc_new _ _
  have HK0 := Lib.hid hk0
  clear hk0
  cases ok with
  | false =>
    clear HC
    go_enter Tryz.func91, Tryz.ntmps91
    go_wp2_with (first
      | (go_at_call 115; refine (HT.out _).mono ?_; rintro e w1 ⟨rfl, hg1⟩)
      | (go_at_call 116; refine (HD.out _).mono ?_; rintro e w2 ⟨rfl, hg2⟩; (have hb := hg2.blk (hg1.blk HK0.out)); (have HB := Lib.hid hb); obtain ⟨k_0, k_1, g_0, g_1, l_0⟩ := blk2 hb; clear hb))
    have hgF := ((Gr.refl w).alloc (.cells #[.int .i64 0, .int .i64 0] 26)).trans (hg1.trans hg2)
    obtain ⟨q0, q1, _, _, _⟩ := blk2 (by simpa using heap_set (heap_set (heap_set (heap_set HB.out 0 (.int .i64 a)) 1 (.int .i64 b)) 0 (.int .i64 0)) 1 (.int .i64 0))
    exact bodyPost_ret (v := .tuple #[.string ⟨#[]⟩, .agg #[.int .i64 0, .int .i64 0], .int .i64 4]) (by simp [results, Tryz.results91, go_sem, q0, q1]) rfl ⟨by rw [HU.out]; simp, (by repeat (first | (with_reducible exact Gr.refl _) | (with_reducible assumption) | (with_reducible refine Gr.alloc ?_ _) | (with_reducible refine Gr.drew ?_) | (with_reducible refine Gr.drewN ?_ _) | (with_reducible refine Gr.trans ?_ (by assumption)) | (with_reducible refine Gr.setCell ?_ (by first | exact Nat.le_refl _ | omega | (simp; done) | (simp; omega)) _)))⟩
  | true =>
    rcases HC.out with he | he | he
    · simp only at he
      subst he
      cases more with
      | nil =>
        clear HC
        go_enter Tryz.func91, Tryz.ntmps91
        go_wp2_with (first
          | (go_at_call 115; refine (HT.out _).mono ?_; rintro e w1 ⟨rfl, hg1⟩)
          | (go_at_call 116; refine (HD.out _).mono ?_; rintro e w2 ⟨rfl, hg2⟩; (have hb := hg2.blk (hg1.blk HK0.out)); (have HB := Lib.hid hb); obtain ⟨k_0, k_1, g_0, g_1, l_0⟩ := blk2 hb; clear hb))
        have hgF := ((Gr.refl w).alloc (.cells #[.int .i64 0, .int .i64 0] 26)).trans (hg1.trans hg2)
        obtain ⟨q0, q1, qf0, qf1, ql⟩ := blk2 (by simpa using heap_set (heap_set HB.out 0 (.int .i64 a)) 1 (.int .i64 b))
        go_region
        all_goals go_wp2
        all_goals
          obtain ⟨z0, z1, _, _, _⟩ := blk2 (by simpa using heap_set (heap_set (heap_set (heap_set HB.out 0 (.int .i64 a)) 1 (.int .i64 b)) 0 (.int .i64 a)) 1 (.int .i64 b))
          exact bodyPost_ret (v := .tuple #[.string ⟨k.toArray⟩, .agg #[.int .i64 a, .int .i64 b], .int .i64 0]) (by simp [results, Tryz.results91, go_sem, z0, z1]) rfl ⟨by rw [HU.out]; simp, (by repeat (first | (with_reducible exact Gr.refl _) | (with_reducible assumption) | (with_reducible refine Gr.alloc ?_ _) | (with_reducible refine Gr.drew ?_) | (with_reducible refine Gr.drewN ?_ _) | (with_reducible refine Gr.trans ?_ (by assumption)) | (with_reducible refine Gr.setCell ?_ (by first | exact Nat.le_refl _ | omega | (simp; done) | (simp; omega)) _)))⟩
      | cons x t =>
        have hne : ((⟨(x :: t).toArray⟩ : ByteArray) != ⟨#[]⟩) = true := (ba_bne (x :: t) []).trans (by simp)
        have hem : (⟨(x :: t).toArray⟩ : ByteArray).toList.isEmpty = false := by rw [isEmpty_size, ba_len]; simp
        clear HC
        go_enter Tryz.func91, Tryz.ntmps91
        go_wp2_with (first
          | (go_at_call 115; refine (HT.out _).mono ?_; rintro e w1 ⟨rfl, hg1⟩)
          | (go_at_call 116; refine (HD.out _).mono ?_; rintro e w2 ⟨rfl, hg2⟩; (have hb := hg2.blk (hg1.blk HK0.out)); (have HB := Lib.hid hb); obtain ⟨k_0, k_1, g_0, g_1, l_0⟩ := blk2 hb; clear hb))
        have hgF := ((Gr.refl w).alloc (.cells #[.int .i64 0, .int .i64 0] 26)).trans (hg1.trans hg2)
        obtain ⟨q0, q1, _, _, _⟩ := blk2 (by simpa using heap_set (heap_set (heap_set (heap_set HB.out 0 (.int .i64 a)) 1 (.int .i64 b)) 0 (.int .i64 0)) 1 (.int .i64 0))
        exact bodyPost_ret (v := .tuple #[.string ⟨#[]⟩, .agg #[.int .i64 0, .int .i64 0], .int .i64 4]) (by simp [results, Tryz.results91, go_sem, q0, q1]) rfl ⟨by rw [HU.out]; simp, (by repeat (first | (with_reducible exact Gr.refl _) | (with_reducible assumption) | (with_reducible refine Gr.alloc ?_ _) | (with_reducible refine Gr.drew ?_) | (with_reducible refine Gr.drewN ?_ _) | (with_reducible refine Gr.trans ?_ (by assumption)) | (with_reducible refine Gr.setCell ?_ (by first | exact Nat.le_refl _ | omega | (simp; done) | (simp; omega)) _)))⟩
    · simp only at he
      subst he
      clear HC
      go_enter Tryz.func91, Tryz.ntmps91
      go_wp2_with (first
        | (go_at_call 115; refine (HT.out _).mono ?_; rintro e w1 ⟨rfl, hg1⟩)
        | (go_at_call 116; refine (HD.out _).mono ?_; rintro e w2 ⟨rfl, hg2⟩; (have hb := hg2.blk (hg1.blk HK0.out)); (have HB := Lib.hid hb); obtain ⟨k_0, k_1, g_0, g_1, l_0⟩ := blk2 hb; clear hb))
      have hgF := ((Gr.refl w).alloc (.cells #[.int .i64 0, .int .i64 0] 26)).trans (hg1.trans hg2)
      obtain ⟨q0, q1, _, _, _⟩ := blk2 (by simpa using heap_set (heap_set (heap_set (heap_set HB.out 0 (.int .i64 a)) 1 (.int .i64 b)) 0 (.int .i64 0)) 1 (.int .i64 0))
      exact bodyPost_ret (v := .tuple #[.string ⟨#[]⟩, .agg #[.int .i64 0, .int .i64 0], .int .i64 4]) (by simp [results, Tryz.results91, go_sem, q0, q1]) rfl ⟨by rw [HU.out]; simp, (by repeat (first | (with_reducible exact Gr.refl _) | (with_reducible assumption) | (with_reducible refine Gr.alloc ?_ _) | (with_reducible refine Gr.drew ?_) | (with_reducible refine Gr.drewN ?_ _) | (with_reducible refine Gr.trans ?_ (by assumption)) | (with_reducible refine Gr.setCell ?_ (by first | exact Nat.le_refl _ | omega | (simp; done) | (simp; omega)) _)))⟩
    · simp only at he
      subst he
      clear HC
      go_enter Tryz.func91, Tryz.ntmps91
      go_wp2_with (first
        | (go_at_call 115; refine (HT.out _).mono ?_; rintro e w1 ⟨rfl, hg1⟩)
        | (go_at_call 116; refine (HD.out _).mono ?_; rintro e w2 ⟨rfl, hg2⟩; (have hb := hg2.blk (hg1.blk HK0.out)); (have HB := Lib.hid hb); obtain ⟨k_0, k_1, g_0, g_1, l_0⟩ := blk2 hb; clear hb))
      have hgF := ((Gr.refl w).alloc (.cells #[.int .i64 0, .int .i64 0] 26)).trans (hg1.trans hg2)
      obtain ⟨q0, q1, _, _, _⟩ := blk2 (by simpa using heap_set (heap_set (heap_set (heap_set HB.out 0 (.int .i64 a)) 1 (.int .i64 b)) 0 (.int .i64 0)) 1 (.int .i64 0))
      exact bodyPost_ret (v := .tuple #[.string ⟨#[]⟩, .agg #[.int .i64 0, .int .i64 0], .int .i64 4]) (by simp [results, Tryz.results91, go_sem, q0, q1]) rfl ⟨by rw [HU.out]; simp, (by repeat (first | (with_reducible exact Gr.refl _) | (with_reducible assumption) | (with_reducible refine Gr.alloc ?_ _) | (with_reducible refine Gr.drew ?_) | (with_reducible refine Gr.drewN ?_ _) | (with_reducible refine Gr.trans ?_ (by assumption)) | (with_reducible refine Gr.setCell ?_ (by first | exact Nat.le_refl _ | omega | (simp; done) | (simp; omega)) _)))⟩
end Go.Proofs.YthgecojbggoniaaGreatDoor
