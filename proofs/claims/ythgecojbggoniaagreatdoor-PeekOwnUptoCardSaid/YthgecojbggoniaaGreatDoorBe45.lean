/- What the rows stand on, part 45: PekL. Printed by bundle.py out of my texts. -/
import Derived.Test.YthgecojbggoniaaGreatDoorBe41
import Derived.Test.YthgecojbggoniaaGreatDoorBe44
import Derived.Laws.ResultCell
import Derived.Handy
namespace Go.Proofs.YthgecojbggoniaaGreatDoor
open Go.RowKit
set_option maxRecDepth 100000
set_option linter.unusedVariables false
set_option linter.unusedSimpArgs false
set_option linter.unnecessarySimpa false

def keyA : ByteArray := ⟨#[97]⟩
def tV (wall : Int) (v : ByteArray) : Th := ⟨0, keyA, v, false, wall, 0, itt0⟩
def tPair : List Th := [tV 10 ⟨#[120]⟩, tV 20 ⟨#[121]⟩]
def iLit (id wall : Int) (v : ByteArray) (del : Bool) : Itt := ⟨id, 0, 1, keyA, wall, 0, 0, 0, [⟨1, v, del⟩]⟩
def tI (i : Itt) : Th := ⟨1, keyA, ⟨#[]⟩, false, 0, 0, i⟩
def rdr (wall limit : Int) : Tx := ⟨7, 0, 1, ⟨#[]⟩, wall, 0, wall, 0, limit, 0, 0, 0⟩
def tNear : List Th := tPair ++ [tI (iLit 9 15 ⟨#[122]⟩ false)]
def tFar : List Th := tPair ++ [tI (iLit 9 16 ⟨#[122]⟩ false)]
def tOwn : List Th := tPair ++ [tI (iLit 7 15 ⟨#[]⟩ true)]
theorem g1 : getF (tabR (opsT tPair)) keyA (rdr 15 15) 0 0 = (⟨keyA, ⟨#[120]⟩, true, false, 10, 0, itt0⟩, 0) := by kernel_rfl
theorem g2 : getF (tabR (opsT tPair)) keyA (rdr 15 25) 0 0 = (⟨keyA, ⟨#[]⟩, false, false, 20, 0, itt0⟩, 121) := by kernel_rfl
theorem g3 : getF (tabR (opsT tPair)) keyA (rdr 10 10) 0 0 = (⟨keyA, ⟨#[]⟩, false, false, 10, 0, itt0⟩, 121) := by kernel_rfl
theorem g4 : getF (tabR (opsT tNear)) keyA (rdr 15 15) 0 0 = (⟨keyA, ⟨#[]⟩, false, false, 0, 0, iLit 9 15 ⟨#[122]⟩ false⟩, 120) := by kernel_rfl
theorem g5 : getF (tabR (opsT tFar)) keyA (rdr 15 15) 0 0 = (⟨keyA, ⟨#[120]⟩, true, false, 10, 0, itt0⟩, 0) := by kernel_rfl
theorem g6 : getF (tabR (opsT tOwn)) keyA (rdr 15 15) 0 0 = (⟨keyA, ⟨#[]⟩, false, true, 15, 0, itt0⟩, 0) := by kernel_rfl
theorem sz_all {R : List Rw} (h : (R.all fun x => decide (x.1.size ≤ 4398046511000) && decide (x.2.size ≤ 4398046511000)) = true) : ∀ x ∈ R, SzP x := by
  intro x hx
  have := List.all_eq_true.1 h x hx
  simp only [Bool.and_eq_true, decide_eq_true_eq] at this
  exact this
theorem szw {R : List Rw} (h : ∀ x ∈ R, SzP x) : ∀ x ∈ R, x.1.size < 140737488355328 ∧ x.2.size ≤ 140737488351232 := fun x hx => ⟨by have := (h x hx).1; omega, by have := (h x hx).2; omega⟩
theorem sPair : ∀ x ∈ tabR (opsT tPair), SzP x := sz_all (by kernel_rfl)
theorem sNear : ∀ x ∈ tabR (opsT tNear), SzP x := sz_all (by kernel_rfl)
theorem sFar : ∀ x ∈ tabR (opsT tFar), SzP x := sz_all (by kernel_rfl)
theorem sOwn : ∀ x ∈ tabR (opsT tOwn), SzP x := sz_all (by kernel_rfl)
theorem chg_lit {g : Nat} {c : Chg} {w : World} {t : TypeId} (h : w.heap[g]? = some (.cells (chgCells c).toArray t)) : RdC w (.slice (some ⟨g, 0, none⟩) 1 1) [c] := by
  refine .inr ⟨g, 0, 1, rfl, by simp, by simp, by decide, (Array.getElem?_eq_some_iff.1 h).1, fun i hi => ?_⟩
  obtain rfl : i = 0 := by simpa using hi
  refine ⟨chgCells c, rfl, fun j hj => ?_, rfl⟩
  have hj3 : j < 3 := hj
  simp only [World.cell?, h]
  obtain rfl | rfl | rfl : j = 0 ∨ j = 1 ∨ j = 2 := by omega
  all_goals simp [chgCells]
/-! things as they are made -/
abbrev ThV := Th × (Option Addr × Nat × Nat)
def thE (p : ThV) : List Value := thC p.1 (.slice p.2.1 p.2.2.1 p.2.2.2)
theorem elTh : ElTy 22 64 15 (.agg #[.int .i64 0, .string ⟨#[]⟩, .string ⟨#[]⟩, .bool false, .int .i64 0, .int .i64 0, .int .i64 0, .int .i64 0, .int .i64 0, .string ⟨#[]⟩, .int .i64 0, .int .i64 0, .int .i64 0, .int .i64 0, .slice none 0 0]) 160 := ⟨Tryz.underlying22, by kernel_rfl, rfl, by decide⟩
theorem encTh : Enc thE 15 := ⟨fun _ => rfl, fun a u hu => by
  simp [thE, thC] at hu
  rcases hu with rfl | rfl | rfl | rfl | rfl | rfl | rfl | rfl | rfl | rfl | rfl | rfl | rfl | rfl | rfl <;> rfl⟩
theorem rdt_of {w : World} {v : Value} {l : List ThV} (h : RdR (RE thE) 15 w v l) (hc : ∀ p ∈ l, RdC w (.slice p.2.1 p.2.2.1 p.2.2.2) p.1.it.l) : RdT w v (l.map (·.1)) := by
  rcases h with ⟨rfl, q, c, h1, h2, h3⟩ | ⟨blk, off, cap, h1, h2, h3, h4, h5, h6⟩
  · exact .inl ⟨rfl, q, c, h1, h2, h3⟩
  · refine .inr ⟨blk, off, cap, by rw [List.length_map]; exact h1, by rw [List.length_map]; exact h2, by rw [List.length_map]; exact h3, h4, h5, fun i hi => ?_⟩
    have hi' : i < l.length := by rwa [List.length_map] at hi
    obtain ⟨ds, d1, d2, d3⟩ := h6 i hi'
    refine ⟨ds, d1, d2, .slice l[i].2.1 l[i].2.2.1 l[i].2.2.2, ?_, ?_⟩
    · rw [List.getElem_map]; exact d3
    · rw [List.getElem_map]; exact hc _ (List.getElem_mem hi')
def nilC : Option Addr × Nat × Nat := (none, 0, 0)
theorem nilC_rd (w : World) : RdC w (.slice nilC.1 nilC.2.1 nilC.2.2) [] := .inl ⟨rfl, none, 0, rfl, by decide, fun _ => rfl⟩
def vPair : List ThV := [(tV 10 ⟨#[120]⟩, nilC), (tV 20 ⟨#[121]⟩, nilC)]
theorem at12 (n : Int) (w : World) : Calls Tryz.prog 25 #[.int .i64 n] w fun e w' => e = .returned (.agg #[.int .i64 n, .int .i64 0]) ∧ Gr w w' := by
  go_enter Tryz.func25, Tryz.ntmps25
  go_wp2
  go_returns
  exact ⟨rfl, (by repeat (first | (with_reducible exact Gr.refl _) | (with_reducible assumption) | (with_reducible refine Gr.alloc ?_ _) | (with_reducible refine Gr.drew ?_) | (with_reducible refine Gr.drewN ?_ _) | (with_reducible refine Gr.trans ?_ (by assumption)) | (with_reducible refine Gr.setCell ?_ (by first | exact Nat.le_refl _ | omega | (simp; done) | (simp; omega)) _)))⟩
theorem pair12 (w : World) : Calls Tryz.prog 31 #[] w fun e w' => ∃ v, e = .returned v ∧ OwnG 64 15 thE w' w.heap.size v vPair ∧ Gr w w' := by
  go_enter Tryz.func31, Tryz.ntmps31
  go_wp2_with fail
  refine (at12 10 _).mono ?_
  rintro e w1 ⟨rfl, hg1⟩
  have HG1 := Lib.hid hg1
  clear hg1
  go_wp2_with fail
  refine (at12 20 _).mono ?_
  rintro e w2 ⟨rfl, hg2⟩
  have HG2 := Lib.hid (HG1.out.trans hg2)
  have HO : Hid (OwnG 64 15 thE (w2.alloc (.cells (vPair.flatMap thE).toArray 64)) w.heap.size (.slice (some ⟨w2.heap.size, 0, none⟩) 2 2) vPair) := Lib.hid ⟨by decide, .inr ⟨w2.heap.size, 2, _, rfl, HG2.out.size, heap_alloc_new _ _, by decide, by decide, rfl, rfl⟩⟩
  clear hg2
  go_wp2
  go_ret
  exact ⟨_, rfl, HO.out, HG2.out.alloc _⟩
set_option maxHeartbeats 2000000 in
theorem reader12 (a b : Int) (w : World) : Calls Tryz.prog 32 #[.int .i64 a, .int .i64 b] w fun e w' => e = .returned (.agg (txC (rdr a b))) ∧ Gr w w' := by
  have HI : Hid ((Tryz.prog.info? 28).map (·.size) = some 12) := Lib.hid (by kernel_rfl)
  have hb0 := heap_alloc_new w (.cells (txC ⟨0, 0, 0, ⟨#[]⟩, 0, 0, 0, 0, 0, 0, 0, 0⟩) 28)
  have HB := Lib.hid hb0
  have HG : Hid (Gr w (w.alloc (.cells (txC ⟨0, 0, 0, ⟨#[]⟩, 0, 0, 0, 0, 0, 0, 0, 0⟩) 28))) := Lib.hid ((Gr.refl w).alloc _)
  clear hb0
  go_enter Tryz.func32, Tryz.ntmps32
  go_wp2_with fail
  refine (at12 a _).mono ?_
  rintro e w1 ⟨rfl, hg1⟩
  replace HB := Lib.hid (hg1.blk HB.out)
  replace HG := Lib.hid (HG.out.trans hg1)
  clear hg1
  go_wp2_with fail
  refine (at12 a _).mono ?_
  rintro e w2 ⟨rfl, hg2⟩
  replace HB := Lib.hid (hg2.blk HB.out)
  replace HG := Lib.hid (HG.out.trans hg2)
  clear hg2
  go_wp2_with fail
  refine (at12 b _).mono ?_
  rintro e w3 ⟨rfl, hg3⟩
  replace HB := Lib.hid (hg3.blk HB.out)
  replace HG := Lib.hid (HG.out.trans hg3)
  clear hg3
  go_wp2_with (refine wpList_store_row (by rfl) _ _ _ (by rfl) _ (txC (rdr a b)) (by rfl) (by rfl) _ _ HB.out HI.out (by rfl) (by simp [txC, Value.oneCell']) ?_)
  refine bodyPost_ret (v := .agg (txC (rdr a b))) ?_ rfl ⟨rfl, ⟨below_setRow HG.out.b (Nat.le_refl _) _⟩⟩
  exact results_cell_row rfl _ _ w.heap.size 28 (txC (rdr a b)) (0, 0) _ rfl (setRow_heap _ _ _ _ _ _ HB.out) Tryz.underlying28 rfl HI.out
set_option maxHeartbeats 2000000 in
theorem mkIntent12 (id wall : Int) (v : ByteArray) (del : Bool) (w : World) : Calls Tryz.prog 33 #[.int .i64 id, .int .i64 wall, .string v, .bool del] w fun e w' => ∃ g, e = .returned (.agg #[.int .i64 id, .int .i64 0, .int .i64 1, .string keyA, .int .i64 wall, .int .i64 0, .int .i64 0, .int .i64 0, .slice (some ⟨g, 0, none⟩) 1 1]) ∧ w.heap.size ≤ g ∧ RdC w' (.slice (some ⟨g, 0, none⟩) 1 1) (iLit id wall v del).l ∧ Gr w w' := by
  have HI9 : Hid ((Tryz.prog.info? 40).map (·.size) = some 9) := Lib.hid (by kernel_rfl)
  have hb0 := heap_alloc_new w (.cells (#[.int .i64 0, .int .i64 0, .int .i64 0, .string ⟨#[]⟩, .int .i64 0, .int .i64 0, .int .i64 0, .int .i64 0, .slice none 0 0] : Array Value) 40)
  have HB := Lib.hid hb0
  have HG := Lib.hid ((Gr.refl w).alloc (.cells (#[.int .i64 0, .int .i64 0, .int .i64 0, .string ⟨#[]⟩, .int .i64 0, .int .i64 0, .int .i64 0, .int .i64 0, .slice none 0 0] : Array Value) 40))
  clear hb0
  go_enter Tryz.func33, Tryz.ntmps33
  go_wp2_with fail
  refine (at12 wall _).mono ?_
  rintro e w1 ⟨rfl, hg1⟩
  have HZ : Hid (w.heap.size ≤ w1.heap.size) := Lib.hid (HG.out.trans hg1).size
  have hX := hg1.alloc (.cells (chgCells ⟨1, v, del⟩).toArray 76)
  replace HB := Lib.hid (hX.blk HB.out)
  replace HG := Lib.hid (HG.out.trans hX)
  have HC := Lib.hid (heap_alloc_new w1 (.cells (chgCells ⟨1, v, del⟩).toArray 76))
  have HR := Lib.hid (chg_kept (w' := (w1.alloc (.cells (chgCells ⟨1, v, del⟩).toArray 76)).setRow w.heap.size #[.int .i64 id, .int .i64 0, .int .i64 1, .string keyA, .int .i64 wall, .int .i64 0, .int .i64 0, .int .i64 0, .slice (some ⟨w1.heap.size, 0, none⟩) 1 1]) (chg_lit HC.out) (Nat.le_of_eq (size_setRow _ _ _).symm) (fun k o hk ho => by rw [setRow_other _ _ _ _ hk]; exact ho) HB.out (by
    intro i z s q ⟨h1, h2, h3⟩
    match i with
    | 0 | 1 | 2 | 3 | 4 | 5 | 6 | 7 | 8 => simp at h1 h2 h3
    | n + 9 => simp at h1))
  clear hg1 hX
  go_wp2_with (refine wpList_store_row (by rfl) _ _ _ (by rfl) _ #[.int .i64 id, .int .i64 0, .int .i64 1, .string keyA, .int .i64 wall, .int .i64 0, .int .i64 0, .int .i64 0, .slice (some ⟨w1.heap.size, 0, none⟩) 1 1] (by rfl) (by rfl) _ _ HB.out HI9.out (by rfl) (by simp [Value.oneCell']) ?_)
  refine bodyPost_ret (v := .agg #[.int .i64 id, .int .i64 0, .int .i64 1, .string keyA, .int .i64 wall, .int .i64 0, .int .i64 0, .int .i64 0, .slice (some ⟨w1.heap.size, 0, none⟩) 1 1]) ?_ rfl ⟨w1.heap.size, rfl, HZ.out, HR.out, ⟨below_setRow HG.out.b (Nat.le_refl _) _⟩⟩
  exact results_cell_row rfl _ _ w.heap.size 40 #[.int .i64 id, .int .i64 0, .int .i64 1, .string keyA, .int .i64 wall, .int .i64 0, .int .i64 0, .int .i64 0, .slice (some ⟨w1.heap.size, 0, none⟩) 1 1] (0, 0) _ rfl (setRow_heap _ _ _ _ _ _ HB.out) Tryz.underlying40 rfl HI9.out
end Go.Proofs.YthgecojbggoniaaGreatDoor
