/- Layer 11: numbers, stamps and versions as texts: both sides. -/
import Derived.Test.YtocijpeminghoaaGreatDoorCelC
import Derived.Test.YtocijpeminghoaaGreatDoorPlainA
namespace Go.Proofs.YtocijpeminghoaaGreatDoor
open Go.RowKit
set_option maxRecDepth 100000
set_option linter.unusedVariables false
set_option linter.unusedSimpArgs false

def stampW (p : Int × Int) : List UInt8 := numW p.1 ++ numW p.2
def stampE (a b : Int) : Int := if mayB a b = true then 0 else 2
def okV (value : List UInt8) (is : Bool) : Bool := decide (value.length ≤ 64) && (is || value.isEmpty)
def versionW (value : List UInt8) (is : Bool) : List UInt8 := if okV value is = true then (if is = true then numW 1 ++ strW value else numW 0) else []
def versionE (value : List UInt8) (is : Bool) : Int := if okV value is = true then 0 else 2
def stampsCells (ps : List (Int × Int)) : List Value := ps.flatMap fun p => [.int .i64 p.1, .int .i64 p.2]

theorem stampsCells_get : ∀ (ps : List (Int × Int)) (k : Nat) (h : k < ps.length), (stampsCells ps)[k * 2]? = some (.int .i64 ps[k].1) ∧ (stampsCells ps)[k * 2 + 1]? = some (.int .i64 ps[k].2)
  | p :: ps, 0, h => by simp [stampsCells]
  | p :: ps, k + 1, h => by
    have := stampsCells_get ps k (by simpa using h)
    simp only [stampsCells, List.flatMap_cons] at this ⊢
    simpa [show (k + 1) * 2 = k * 2 + 1 + 1 by omega] using this
theorem stampsW_length : ∀ ps : List (Int × Int), (ps.flatMap stampW).length ≤ 16 * ps.length
  | [] => by simp
  | p :: ps => by
    have h1 := numW_length p.1
    have h2 := numW_length p.2
    have := stampsW_length ps
    simp [stampW] at this ⊢; omega
theorem stampsW_take (L : List UInt8) (ps : List (Int × Int)) (k : Nat) (h : k < ps.length) : L ++ (ps.take (k + 1)).flatMap stampW = (L ++ (ps.take k).flatMap stampW) ++ [ps[k].1, ps[k].2].flatMap numW := by
  rw [List.take_succ_eq_append_getElem h, List.flatMap_append]
  simp [stampW]

theorem stampCheck_any (a b : Int) (w : World) :
    Calls Tryz.prog 25 #[.agg #[.int .i64 a, .int .i64 b]] w fun e w' => e = .returned (.int .i64 (if mayB a b = true then 0 else 9)) ∧ Gr w w' := by
  by_cases h : mayB a b = true
  · have hm := h
    simp [mayB] at hm
    rw [if_pos h]
    go_enter Tryz.func25, Tryz.ntmps25
    go_wp2
    go_ret
    exact ⟨rfl, (by repeat (first | (with_reducible exact Gr.refl _) | (with_reducible assumption) | (with_reducible refine Gr.alloc ?_ _) | (with_reducible refine Gr.drew ?_) | (with_reducible refine Gr.drewN ?_ _) | (with_reducible refine Gr.trans ?_ (by assumption)) | (with_reducible refine Gr.setCell ?_ (by first | exact Nat.le_refl _ | omega | (simp; done) | (simp; omega)) _)))⟩
  · have hm := h
    simp [mayB] at hm
    rw [if_neg h]
    go_enter Tryz.func25, Tryz.ntmps25
    go_wp2
    all_goals first | (exfalso; omega) | (go_ret; exact ⟨rfl, (by repeat (first | (with_reducible exact Gr.refl _) | (with_reducible assumption) | (with_reducible refine Gr.alloc ?_ _) | (with_reducible refine Gr.drew ?_) | (with_reducible refine Gr.drewN ?_ _) | (with_reducible refine Gr.trans ?_ (by assumption)) | (with_reducible refine Gr.setCell ?_ (by first | exact Nat.le_refl _ | omega | (simp; done) | (simp; omega)) _)))⟩)
theorem numE_text (n : Int) : (if (if decide (0 ≤ n ∧ n ≤ 9007199254740991) = true then (0 : Int) else 2) = 0 then numW n else []) = numW n := by
  unfold numW
  by_cases h : 0 ≤ n ∧ n ≤ 9007199254740991
  · simp [h]
  · simp [h]

theorem refNumb_any (n : Int) (w : World) :
    Calls Tryz.prog 47 #[.int .i64 n] w fun e w' => ∃ v, e = .returned v ∧ Own w' w.heap.size v (numW n) ∧ Gr w w' := by
  go_enter Tryz.func47, Tryz.ntmps47
  go_wp2_with (go_at_call 74; refine (refNum_any _ _).mono ?_; rintro e w1 ⟨v, rfl, hown, hg⟩)
  go_ret
  exact ⟨v, rfl, hown, hg⟩
theorem refStrb_any (s : ByteArray) (w : World) :
    Calls Tryz.prog 48 #[.string s] w fun e w' => ∃ v, e = .returned v ∧ Own w' w.heap.size v (strW s.data.toList) ∧ Gr w w' := by
  go_enter Tryz.func48, Tryz.ntmps48
  go_wp2_with (go_at_call 75; refine (refStr_any _ _).mono ?_; rintro e w1 ⟨v, rfl, hown, hg⟩)
  go_ret
  exact ⟨v, rfl, hown, hg⟩

end Go.Proofs.YtocijpeminghoaaGreatDoor
