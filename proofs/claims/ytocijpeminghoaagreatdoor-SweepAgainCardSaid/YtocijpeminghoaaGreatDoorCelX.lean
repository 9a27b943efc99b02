/- Layer 11's keys: RecordKey, ReadRecord, ReadVersion. -/
import Derived.Test.YtocijpeminghoaaGreatDoorCelL
import Derived.Test.YtocijpeminghoaaGreatDoorRegT
import Derived.RegionTactic
import Derived.ChangeAlike
namespace Go.Proofs.YtocijpeminghoaaGreatDoor
open Go.RowKit
set_option maxRecDepth 100000
set_option linter.unusedVariables false
set_option linter.unusedSimpArgs false

def idOk (n : Int) : Bool := decide (1 ≤ n) && decide (n ≤ 9007199254740991)
/-- the world in which the first k of eight bytes are written -/
def wtop (blk : Nat) (n : Int) : Nat → World → World
  | 0, w => w
  | k + 1, w => (wtop blk n k w).setCell ⟨blk, k, none⟩ (.int .u8 (n / 2 ^ ((7 - k) * 8) % 256))
theorem wtop8 (w : World) (n : Int) (t : TypeId) (a b c d e f g h : Value) :
    wtop w.heap.size n 8 (w.alloc (.cells #[a, b, c, d, e, f, g, h] t)) = w.alloc (.cells #[by8 n 7, by8 n 6, by8 n 5, by8 n 4, by8 n 3, by8 n 2, by8 n 1, by8 n 0] t) := by
  simp [wtop, by8, byI, World.setCell_alloc_new]
theorem wtop_cell (blk : Nat) (n : Int) (w : World) (h : ∀ i, i < 8 → ∃ v, w.cell? ⟨blk, i, none⟩ = some v) (k : Nat) : ∀ i, i < 8 → ∃ v, (wtop blk n k w).cell? ⟨blk, i, none⟩ = some v := by
  induction k with
  | zero => exact h
  | succ k ih =>
    intro i hi
    obtain ⟨v, hv⟩ := ih i hi
    exact cell?_setCell_some hv
theorem wtop_frozen (blk : Nat) (n : Int) (k : Nat) (w : World) (a : Addr) : (wtop blk n k w).frozen? a = w.frozen? a := by
  induction k with
  | zero => rfl
  | succ k ih => rw [wtop, World.frozen?_setCell, ih]
theorem rec_str (n : Int) : strOfNums [byI n 7, byI n 6, byI n 5, byI n 4, byI n 3, byI n 2, byI n 1, byI n 0] = ⟨(beL n 8).toArray⟩ := by
  simp [strOfNums, beL, byI]
def recordKeyR (l : List UInt8) (n : Int) : List UInt8 × Int := if l.length ≤ 1000 ∧ idOk n = true then (116 :: (keyL l ++ beL n 8), 0) else ([], 2)

/-- ReadVersion -/
theorem takeDown_cases (l : List UInt8) : (takeDownL l).2.2.2 = 0 ∨ ((takeDownL l).2.2.2 = 3 ∨ (takeDownL l).2.2.2 = 4) := by
  unfold takeDownL
  split
  · simp
  · split <;> simp
set_option maxHeartbeats 2000000 in
theorem readVersion_any (s : ByteArray) (hs : s.size ≤ 140737488355328) (w : World) : Calls Tryz.prog 13 #[.string s] w fun e w' =>
    e = .returned (.tuple #[.string ⟨(readVersionR s.data.toList).1.toArray⟩, .agg #[.int .i64 (readVersionR s.data.toList).2.1, .int .i64 (readVersionR s.data.toList).2.2.1], .int .i64 (readVersionR s.data.toList).2.2.2]) ∧ Gr w w' := by
  have HT := Lib.hid (fun w => whose_any s hs 118 w)
  have HU : Hid (readVersionR s.data.toList = if (whoseR s.data.toList 118).2.2 = true ∧ (takeDownL (whoseR s.data.toList 118).2.1).2.2.2 = 0 ∧ (takeDownL (whoseR s.data.toList 118).2.1).2.2.1 = [] then ((whoseR s.data.toList 118).1, (takeDownL (whoseR s.data.toList 118).2.1).1, (takeDownL (whoseR s.data.toList 118).2.1).2.1, 0) else ([], 0, 0, 4)) := Lib.hid rfl
  generalize (whoseR s.data.toList 118) = r at HT HU
  obtain ⟨k, rest, ok⟩ := r
  have HD := Lib.hid (fun w => takeDown_any ⟨rest.toArray⟩ w)
  rw [show (⟨rest.toArray⟩ : ByteArray).data.toList = rest by simp] at HD
  have HC := Lib.hid (takeDown_cases rest)
  replace HU : Hid (readVersionR s.data.toList = if ok = true ∧ (takeDownL rest).2.2.2 = 0 ∧ (takeDownL rest).2.2.1 = [] then (k, (takeDownL rest).1, (takeDownL rest).2.1, 0) else ([], 0, 0, 4)) := HU
  generalize takeDownL rest = d at HD HU HC
  obtain ⟨a, b, more, e⟩ := d
  have hk0 : (w.alloc (.cells #[.int .i64 0, .int .i64 0] 24)).heap[w.heap.size]? = some (.cells #[.int .i64 0, .int .i64 0] 24) := heap_alloc_new _ _
  have HK0 := Lib.hid hk0
  clear hk0
  cases ok with
  | false =>
    clear HC
    go_enter Tryz.func13, Tryz.ntmps13
    go_wp2_with (first
      | (go_at_call 33; refine (HT.out _).mono ?_; rintro e w1 ⟨rfl, hg1⟩)
      | (go_at_call 34; refine (HD.out _).mono ?_; rintro e w2 ⟨rfl, hg2⟩; (have hb := hg2.blk (hg1.blk HK0.out)); (have HB := Lib.hid hb); obtain ⟨k_0, k_1, g_0, g_1, l_0⟩ := blk2 hb; clear hb))
    have hgF := ((Gr.refl w).alloc (.cells #[.int .i64 0, .int .i64 0] 24)).trans (hg1.trans hg2)
    obtain ⟨q0, q1, _, _, _⟩ := blk2 (by simpa using heap_set (heap_set (heap_set (heap_set HB.out 0 (.int .i64 a)) 1 (.int .i64 b)) 0 (.int .i64 0)) 1 (.int .i64 0))
    exact bodyPost_ret (v := .tuple #[.string ⟨#[]⟩, .agg #[.int .i64 0, .int .i64 0], .int .i64 4]) (by simp [results, Tryz.results13, go_sem, q0, q1]) rfl ⟨by rw [HU.out]; simp, (by repeat (first | (with_reducible exact Gr.refl _) | (with_reducible assumption) | (with_reducible refine Gr.alloc ?_ _) | (with_reducible refine Gr.drew ?_) | (with_reducible refine Gr.drewN ?_ _) | (with_reducible refine Gr.trans ?_ (by assumption)) | (with_reducible refine Gr.setCell ?_ (by first | exact Nat.le_refl _ | omega | (simp; done) | (simp; omega)) _)))⟩
  | true =>
    rcases HC.out with he | he | he
    · simp only at he
      subst he
      cases more with
      | nil =>
        clear HC
        go_enter Tryz.func13, Tryz.ntmps13
        go_wp2_with (first
          | (go_at_call 33; refine (HT.out _).mono ?_; rintro e w1 ⟨rfl, hg1⟩)
          | (go_at_call 34; refine (HD.out _).mono ?_; rintro e w2 ⟨rfl, hg2⟩; (have hb := hg2.blk (hg1.blk HK0.out)); (have HB := Lib.hid hb); obtain ⟨k_0, k_1, g_0, g_1, l_0⟩ := blk2 hb; clear hb))
        have hgF := ((Gr.refl w).alloc (.cells #[.int .i64 0, .int .i64 0] 24)).trans (hg1.trans hg2)
        obtain ⟨q0, q1, qf0, qf1, ql⟩ := blk2 (by simpa using heap_set (heap_set HB.out 0 (.int .i64 a)) 1 (.int .i64 b))
        go_region
        all_goals go_wp2
        all_goals
          obtain ⟨z0, z1, _, _, _⟩ := blk2 (by simpa using heap_set (heap_set (heap_set (heap_set HB.out 0 (.int .i64 a)) 1 (.int .i64 b)) 0 (.int .i64 a)) 1 (.int .i64 b))
          exact bodyPost_ret (v := .tuple #[.string ⟨k.toArray⟩, .agg #[.int .i64 a, .int .i64 b], .int .i64 0]) (by simp [results, Tryz.results13, go_sem, z0, z1]) rfl ⟨by rw [HU.out]; simp, (by repeat (first | (with_reducible exact Gr.refl _) | (with_reducible assumption) | (with_reducible refine Gr.alloc ?_ _) | (with_reducible refine Gr.drew ?_) | (with_reducible refine Gr.drewN ?_ _) | (with_reducible refine Gr.trans ?_ (by assumption)) | (with_reducible refine Gr.setCell ?_ (by first | exact Nat.le_refl _ | omega | (simp; done) | (simp; omega)) _)))⟩
      | cons x t =>
        have hne : ((⟨(x :: t).toArray⟩ : ByteArray) != ⟨#[]⟩) = true := (ba_bne (x :: t) []).trans (by simp)
        have hem : (⟨(x :: t).toArray⟩ : ByteArray).toList.isEmpty = false := by rw [isEmpty_size, ba_len]; simp
        clear HC
        go_enter Tryz.func13, Tryz.ntmps13
        go_wp2_with (first
          | (go_at_call 33; refine (HT.out _).mono ?_; rintro e w1 ⟨rfl, hg1⟩)
          | (go_at_call 34; refine (HD.out _).mono ?_; rintro e w2 ⟨rfl, hg2⟩; (have hb := hg2.blk (hg1.blk HK0.out)); (have HB := Lib.hid hb); obtain ⟨k_0, k_1, g_0, g_1, l_0⟩ := blk2 hb; clear hb))
        have hgF := ((Gr.refl w).alloc (.cells #[.int .i64 0, .int .i64 0] 24)).trans (hg1.trans hg2)
        obtain ⟨q0, q1, _, _, _⟩ := blk2 (by simpa using heap_set (heap_set (heap_set (heap_set HB.out 0 (.int .i64 a)) 1 (.int .i64 b)) 0 (.int .i64 0)) 1 (.int .i64 0))
        exact bodyPost_ret (v := .tuple #[.string ⟨#[]⟩, .agg #[.int .i64 0, .int .i64 0], .int .i64 4]) (by simp [results, Tryz.results13, go_sem, q0, q1]) rfl ⟨by rw [HU.out]; simp, (by repeat (first | (with_reducible exact Gr.refl _) | (with_reducible assumption) | (with_reducible refine Gr.alloc ?_ _) | (with_reducible refine Gr.drew ?_) | (with_reducible refine Gr.drewN ?_ _) | (with_reducible refine Gr.trans ?_ (by assumption)) | (with_reducible refine Gr.setCell ?_ (by first | exact Nat.le_refl _ | omega | (simp; done) | (simp; omega)) _)))⟩
    · simp only at he
      subst he
      clear HC
      go_enter Tryz.func13, Tryz.ntmps13
      go_wp2_with (first
        | (go_at_call 33; refine (HT.out _).mono ?_; rintro e w1 ⟨rfl, hg1⟩)
        | (go_at_call 34; refine (HD.out _).mono ?_; rintro e w2 ⟨rfl, hg2⟩; (have hb := hg2.blk (hg1.blk HK0.out)); (have HB := Lib.hid hb); obtain ⟨k_0, k_1, g_0, g_1, l_0⟩ := blk2 hb; clear hb))
      have hgF := ((Gr.refl w).alloc (.cells #[.int .i64 0, .int .i64 0] 24)).trans (hg1.trans hg2)
      obtain ⟨q0, q1, _, _, _⟩ := blk2 (by simpa using heap_set (heap_set (heap_set (heap_set HB.out 0 (.int .i64 a)) 1 (.int .i64 b)) 0 (.int .i64 0)) 1 (.int .i64 0))
      exact bodyPost_ret (v := .tuple #[.string ⟨#[]⟩, .agg #[.int .i64 0, .int .i64 0], .int .i64 4]) (by simp [results, Tryz.results13, go_sem, q0, q1]) rfl ⟨by rw [HU.out]; simp, (by repeat (first | (with_reducible exact Gr.refl _) | (with_reducible assumption) | (with_reducible refine Gr.alloc ?_ _) | (with_reducible refine Gr.drew ?_) | (with_reducible refine Gr.drewN ?_ _) | (with_reducible refine Gr.trans ?_ (by assumption)) | (with_reducible refine Gr.setCell ?_ (by first | exact Nat.le_refl _ | omega | (simp; done) | (simp; omega)) _)))⟩
    · simp only at he
      subst he
      clear HC
      go_enter Tryz.func13, Tryz.ntmps13
      go_wp2_with (first
        | (go_at_call 33; refine (HT.out _).mono ?_; rintro e w1 ⟨rfl, hg1⟩)
        | (go_at_call 34; refine (HD.out _).mono ?_; rintro e w2 ⟨rfl, hg2⟩; (have hb := hg2.blk (hg1.blk HK0.out)); (have HB := Lib.hid hb); obtain ⟨k_0, k_1, g_0, g_1, l_0⟩ := blk2 hb; clear hb))
      have hgF := ((Gr.refl w).alloc (.cells #[.int .i64 0, .int .i64 0] 24)).trans (hg1.trans hg2)
      obtain ⟨q0, q1, _, _, _⟩ := blk2 (by simpa using heap_set (heap_set (heap_set (heap_set HB.out 0 (.int .i64 a)) 1 (.int .i64 b)) 0 (.int .i64 0)) 1 (.int .i64 0))
      exact bodyPost_ret (v := .tuple #[.string ⟨#[]⟩, .agg #[.int .i64 0, .int .i64 0], .int .i64 4]) (by simp [results, Tryz.results13, go_sem, q0, q1]) rfl ⟨by rw [HU.out]; simp, (by repeat (first | (with_reducible exact Gr.refl _) | (with_reducible assumption) | (with_reducible refine Gr.alloc ?_ _) | (with_reducible refine Gr.drew ?_) | (with_reducible refine Gr.drewN ?_ _) | (with_reducible refine Gr.trans ?_ (by assumption)) | (with_reducible refine Gr.setCell ?_ (by first | exact Nat.le_refl _ | omega | (simp; done) | (simp; omega)) _)))⟩
end Go.Proofs.YtocijpeminghoaaGreatDoor
