/- Layer 15: the chapter's table, takes, works. -/
import Derived.Test.YtocijpeminghoaaGreatDoorLdB
import Derived.Test.YtocijpeminghoaaGreatDoorSweC
import Derived.Test.YtocijpeminghoaaGreatDoorCelX
import Derived.IntWalk
import Derived.Handy
namespace Go.Proofs.YtocijpeminghoaaGreatDoor
open Go.RowKit
set_option maxRecDepth 100000
set_option linter.unusedVariables false
set_option linter.unusedSimpArgs false
set_option linter.unnecessarySimpa false

theorem at15 (n : Int) (w : World) : Calls Tryz.prog 41 #[.int .i64 n] w fun e w' => e = .returned (.agg #[.int .i64 n, .int .i64 0]) ∧ Gr w w' := by
  go_enter Tryz.func41, Tryz.ntmps41
  go_wp2
  go_returns
  exact ⟨rfl, (by repeat (first | (with_reducible exact Gr.refl _) | (with_reducible assumption) | (with_reducible refine Gr.alloc ?_ _) | (with_reducible refine Gr.drew ?_) | (with_reducible refine Gr.drewN ?_ _) | (with_reducible refine Gr.trans ?_ (by assumption)) | (with_reducible refine Gr.setCell ?_ (by first | exact Nat.le_refl _ | omega | (simp; done) | (simp; omega)) _)))⟩
def hiK : ByteArray := ⟨(Lib.repeatL [255] 33).toArray⟩
theorem all15 (w : World) : Calls Tryz.prog 8 #[] w fun e w' => e = .returned (.agg #[.string ⟨#[]⟩, .string hiK]) ∧ Gr w w' := by
  have HR := Lib.hid (Tryz.strings_Repeat ⟨#[255]⟩ 33 (w.alloc (.cells #[.string ⟨#[]⟩, .string ⟨#[]⟩] 36)) (by decide) (by decide))
  go_enter Tryz.func8, Tryz.ntmps8
  go_wp2_with fail
  refine HR.out.mono ?_
  rintro e w1 ⟨rfl, hb⟩
  have hg : Gr (w.alloc (.cells #[.string ⟨#[]⟩, .string ⟨#[]⟩] 36)) w1 := Gr.of hb
  have HG := Lib.hid (((Gr.refl w).alloc _).trans hg)
  have HB := Lib.hid (hg.blk (heap_alloc_new w _))
  clear hb hg
  obtain ⟨k_0, k_1, _, _, _⟩ := blk2 HB.out
  have hW : ((w1.setCell ⟨w.heap.size, 0, none⟩ (.string ⟨#[]⟩)).setCell ⟨w.heap.size, 1, none⟩ (.string hiK)).heap[w.heap.size]? = some (.cells #[.string ⟨#[]⟩, .string hiK] 36) := by simpa using heap_set (heap_set HB.out 0 (.string ⟨#[]⟩)) 1 (.string hiK)
  have HGf : Hid (Gr w ((w1.setCell ⟨w.heap.size, 0, none⟩ (.string ⟨#[]⟩)).setCell ⟨w.heap.size, 1, none⟩ (.string hiK))) := Lib.hid ((HG.out.setCell (Nat.le_refl _) _).setCell (Nat.le_refl _) _)
  have HW := Lib.hid hW
  clear hW
  go_wp2
  refine bodyPost_ret (v := .agg #[.string ⟨#[]⟩, .string hiK]) ?_ rfl ⟨rfl, HGf.out⟩
  exact results_cell_row rfl _ _ _ _ _ _ _ rfl HW.out Tryz.underlying36 rfl (by kernel_rfl)
def chapL : List Cl := [⟨0, ⟨#[97]⟩, 10, 0, false, ⟨#[120]⟩⟩, ⟨0, ⟨#[97]⟩, 20, 0, false, ⟨#[121]⟩⟩, ⟨0, ⟨#[97]⟩, 30, 0, true, ⟨#[]⟩⟩, ⟨0, ⟨#[97]⟩, 40, 0, false, ⟨#[122]⟩⟩, ⟨0, ⟨#[98]⟩, 10, 0, false, ⟨#[120]⟩⟩]
theorem chap_rdc {g : Nat} {w : World} (h : w.heap[g]? = some (.cells (chapL.flatMap clC).toArray 58)) : RdC w (.slice (some ⟨g, 0, none⟩) 5 5) chapL := by
  refine .inr ⟨g, 0, 5, rfl, by decide, by decide, by decide, (Array.getElem?_eq_some_iff.1 h).1, fun i hi => ?_⟩
  have hi5 : i < 5 := hi
  refine ⟨_, rfl, fun j hj => ?_, rfl⟩
  have hj6 : j < 6 := hj
  simp only [World.cell?, h]
  obtain rfl | rfl | rfl | rfl | rfl : i = 0 ∨ i = 1 ∨ i = 2 ∨ i = 3 ∨ i = 4 := by omega
  all_goals (obtain rfl | rfl | rfl | rfl | rfl | rfl : j = 0 ∨ j = 1 ∨ j = 2 ∨ j = 3 ∨ j = 4 ∨ j = 5 := by omega) <;> rfl
def chapR : List Rw := laidR chapL
set_option maxHeartbeats 4000000 in
theorem chapter15 (w : World) : Calls Tryz.prog 40 #[] w fun e w' => ∃ ta, e = .returned (.pointer (some ⟨ta, 0, none⟩)) ∧ TabAt ta (fun k => w.heap.size ≤ k) chapR w' ∧ Gr w w' := by
  go_enter Tryz.func40, Tryz.ntmps40
  go_wp2_with fail
  refine (at15 10 _).mono ?_
  rintro e w1 ⟨rfl, hg1⟩
  have HG1 := Lib.hid hg1
  clear hg1
  go_wp2_with fail
  refine (at15 20 _).mono ?_
  rintro e w2 ⟨rfl, hg2⟩
  have HG2 := Lib.hid (HG1.out.trans hg2)
  clear hg2
  go_wp2_with fail
  refine (at15 30 _).mono ?_
  rintro e w3 ⟨rfl, hg3⟩
  have HG3 := Lib.hid (HG2.out.trans hg3)
  clear hg3
  go_wp2_with fail
  refine (at15 40 _).mono ?_
  rintro e w4 ⟨rfl, hg4⟩
  have HG4 := Lib.hid (HG3.out.trans hg4)
  clear hg4
  go_wp2_with fail
  refine (at15 10 _).mono ?_
  rintro e w5 ⟨rfl, hg5⟩
  have HG5 := Lib.hid (HG4.out.trans hg5)
  have HRd := Lib.hid (chap_rdc (heap_alloc_new w5 (.cells (chapL.flatMap clC).toArray 58)))
  clear hg5
  go_wp2_with fail
  refine (laid_any HRd.out (by decide) (by decide)).mono ?_
  rintro e w6 ⟨ta, tb, rfl, h6, hg6⟩
  have HG6 := Lib.hid ((HG5.out.alloc _).trans hg6)
  have HT6 := Lib.hid (h6.a.mono (S' := fun k => w.heap.size ≤ k) (fun k hk => by have h1 := HG5.out.size; have h2 := hk.1; simp only [World.alloc, Array.size_push] at h2; omega))
  clear hg6 h6
  go_wp2
  go_ret
  exact ⟨ta, rfl, HT6.out, HG6.out⟩
end Go.Proofs.YtocijpeminghoaaGreatDoor
namespace Go.Proofs.YtocijpeminghoaaGreatDoor
open Go.RowKit
set_option maxRecDepth 100000
set_option linter.unusedVariables false
set_option linter.unusedSimpArgs false
set_option linter.unnecessarySimpa false

theorem chap_eq : chapR = [(ofL [118, 97, 0, 0, 0, 255, 255, 255, 255, 216, 15, 255, 255], ofL [1, 1, 1, 1, 122]), (ofL [118, 97, 0, 0, 0, 255, 255, 255, 255, 226, 15, 255, 255], ofL [0]), (ofL [118, 97, 0, 0, 0, 255, 255, 255, 255, 236, 15, 255, 255], ofL [1, 1, 1, 1, 121]), (ofL [118, 97, 0, 0, 0, 255, 255, 255, 255, 246, 15, 255, 255], ofL [1, 1, 1, 1, 120]), (ofL [118, 98, 0, 0, 0, 255, 255, 255, 255, 246, 15, 255, 255], ofL [1, 1, 1, 1, 120])] := by kernel_rfl
theorem chap_sz : ∀ x ∈ chapR, x.1.size < 140737488355328 ∧ x.2.size ≤ 140737488351232 := by
  rw [chap_eq]
  intro x hx
  simp only [List.mem_cons, List.not_mem_nil, or_false] at hx
  rcases hx with rfl | rfl | rfl | rfl | rfl <;> exact ⟨by decide, by decide⟩
theorem chap_len : chapR.length ≤ 1000000000 := by rw [chap_eq]; decide
theorem empty_hi : klt ⟨#[]⟩ hiK = true := by kernel_rfl
theorem hi_size : hiK.size ≤ 33 := by decide
def goesL (z : Int) : List Opp := (swFold ⟨#[]⟩ hiK z 0 (betweenR vK wK chapR)).out
def goL (x : Int) : Opp := ⟨ofL (versionKeyR [97] x 0).1, ⟨#[]⟩, true⟩
abbrev RdJ (w : World) (v : Value) (l : List Int) : Prop := RdR (fun _ ds (a : Int) => ds = [.int .i64 a]) 1 w v l
theorem RdJ.gr {a b : World} {v : Value} {l : List Int} (h : RdJ a v l) (hg : Gr a b) : RdJ b v l := RdR.gr (fun _ _ _ _ _ h => h) hg h
theorem RdJ.form {w : World} {v : Value} {l : List Int} (h : RdJ w v l) : ∃ q c, v = .slice q l.length c := by
  rcases h with ⟨rfl, q, c, rfl, _⟩ | ⟨blk, off, cap, rfl, _⟩
  · exact ⟨q, c, rfl⟩
  · exact ⟨_, _, rfl⟩
theorem RdJ.at {w : World} {v : Value} {l : List Int} (h : RdJ w v l) {k : Nat} (hk : k < l.length) : ∃ blk off cap, v = .slice (some ⟨blk, off, none⟩) l.length cap ∧ l.length ≤ cap ∧ cap ≤ maxLen ∧ w.cell? ⟨blk, off + k, none⟩ = some (.int .i64 l[k]) := by
  rcases h with ⟨rfl, _⟩ | ⟨blk, off, cap, rfl, h1, h2, h3, h4, h5⟩
  · simp at hk
  · obtain ⟨ds, d1, d2, d3⟩ := h5 k hk
    subst d3
    exact ⟨blk, off, cap, rfl, h2, h3, by simpa using d2 0 (by simp)⟩
theorem len_js {w : World} {q : Option Addr} {n c : Nat} {ty : TypeId} : (Builtin.len_ #[87] ty #[.slice q n c]).run Tryz.prog w = .ok (.int .i64 n) w := by
  cases q <;> simp [Builtin.len_, run_underlying Tryz.underlying87, go_sem]
theorem takes15 (z : Int) (want : List Int) {v : Value} {w : World} (hw : Sh w) (hv : RdJ w v want) (hst : stampOk z 0 = true) (hres : goesL z = want.map goL) (hok : ∀ x ∈ want, (versionKeyR [97] x 0).2 = 0) (hlen : want.length ≤ 1000) :
    Calls Tryz.prog 17 #[.int .i64 z, v] w fun e w' => e = .returned (.bool true) ∧ Gr w w' := by
  obtain ⟨q, c, rfl⟩ := hv.form
  have HL := Lib.hid hv
  have HSh := Lib.hid hw
  have HSt := Lib.hid hst
  have HRes := Lib.hid hres
  have HOk := Lib.hid hok
  have hlenv := fun W ty => len_js (w := W) (q := q) (n := want.length) (c := c) (ty := ty)
  clear hv hw hst hres hok
  go_enter Tryz.func17, Tryz.ntmps17
  go_wp2_with fail
  refine (chapter15 w).mono ?_
  rintro e w1 ⟨ta, rfl, h1, hg1⟩
  have HT := Lib.hid h1
  have HG1 := Lib.hid hg1
  clear h1 hg1
  go_wp2_with fail
  refine (all15 w1).mono ?_
  rintro e w2 ⟨rfl, hg2⟩
  have HG2 := Lib.hid (HG1.out.trans hg2)
  have HT2 := Lib.hid (HT.out.gr hg2)
  clear HG1 HT hg2
  go_wp2_with fail
  refine (at15 z w2).mono ?_
  rintro e w3 ⟨rfl, hg3⟩
  have HG3 := Lib.hid (HG2.out.trans hg3)
  have HT3 := Lib.hid (HT2.out.gr hg3)
  clear HG2 HT2 hg3
  go_wp2_with fail
  refine (sweep_ok HT3.out chap_sz chap_len ⟨#[]⟩ hiK (by decide) hi_size empty_hi z 0 HSt.out).mono ?_
  rintro e w4 ⟨lv, rfl, hown, hg4⟩
  have HG4 := Lib.hid (HG3.out.trans hg4)
  have hrd : RdO w4 lv (goesL z) := hown.rd opEnc (by decide)
  rw [HRes.out] at hrd
  obtain ⟨q2, c2, rfl⟩ := hrd.form
  have HO := Lib.hid hrd
  clear HG3 HT3 hg4 hown hrd
  have hlenw := fun W ty => len_ops (w := W) (q := q2) (n := (want.map goL).length) (c := c2) (ty := ty)
  have hml : (want.map goL).length = want.length := List.length_map _
  go_wp2
  go_loopw [7] (fun iv wr => ∃ k : Nat, iv = .int .i64 k ∧ k ≤ want.length ∧ Hid (Gr w4 wr)) (fun iv _ => want.length - (intOf iv).toNat)
  case atStart => exact ⟨0, rfl, Nat.zero_le _, Lib.hid (Gr.refl _)⟩
  case round =>
    obtain ⟨k, rfl, hk, HG⟩ := hrel
    by_cases hkl : k < want.length
    · obtain ⟨bk, of, cp, e1, q1, q2, c0⟩ := (HL.out.gr (HG4.out.trans HG.out)).at hkl
      cases e1
      have hkm : k < (want.map goL).length := by rw [hml]; exact hkl
      obtain ⟨bo, oo, co, e2, r1, r2, d0, d1, d2⟩ := (HO.out.gr HG.out).at hkm
      cases e2
      have hgk : (want.map goL)[k] = goL want[k] := List.getElem_map _
      rw [hgk] at d0 d1 d2
      unfold maxLen at q2 r2
      have HVK := Lib.hid (versionKey_any ⟨#[97]⟩ want[k] 0)
      have HKey : Hid ((goL want[k]).key = ⟨(versionKeyR [97] want[k] 0).1.toArray⟩) := Lib.hid rfl
      have hz := HOk.out _ (List.getElem_mem hkl)
      go_wp2_with fail
      refine (at15 want[k] _).mono ?_
      rintro e w5 ⟨rfl, hg5⟩
      have HG5 := Lib.hid hg5
      clear hg5
      go_wp2_with fail
      refine (HVK.out _ (HSh.out.gr ((HG4.out.trans HG.out).trans HG5.out))).mono ?_
      rintro e w6 ⟨rfl, hg6⟩
      have HG6 := Lib.hid (HG5.out.trans hg6)
      clear hg6
      have f0 := HG6.out.cell' d0
      have f1 : w6.cell? ⟨bo, oo + k * 3 + 1, none⟩ = some (.string ⟨#[]⟩) := HG6.out.cell' d1
      have f2 : w6.cell? ⟨bo, oo + k * 3 + 2, none⟩ = some (.bool true) := HG6.out.cell' d2
      rw [HKey.out] at f0
      clear d0 d1 d2 c0
      go_wp2
      go_roundw
      case rel => exact ⟨k + 1, by go_num, by omega, Lib.hid (HG.out.trans HG6.out)⟩
      case measure => simp [intOf]; omega
    · obtain rfl : k = want.length := by omega
      go_wp2
      go_ret
      exact ⟨rfl, HG4.out.trans HG.out⟩
end Go.Proofs.YtocijpeminghoaaGreatDoor
namespace Go.Proofs.YtocijpeminghoaaGreatDoor
open Go.RowKit
set_option maxRecDepth 100000
set_option linter.unusedVariables false
set_option linter.unusedSimpArgs false
set_option linter.unnecessarySimpa false

theorem RdJ.lit {g : Nat} {w : World} {l : List Int} {t : TypeId} (hl : 1 ≤ l.length) (hl2 : l.length ≤ 1000) (h : w.heap[g]? = some (.cells (l.map (Value.int .i64)).toArray t)) : RdJ w (.slice (some ⟨g, 0, none⟩) l.length l.length) l := by
  refine .inr ⟨g, 0, l.length, rfl, hl, Nat.le_refl _, by unfold maxLen; omega, (Array.getElem?_eq_some_iff.1 h).1, fun i hi => ?_⟩
  refine ⟨_, rfl, fun j hj => ?_, rfl⟩
  obtain rfl : j = 0 := by simpa using hj
  simp only [World.cell?, h]
  simp [List.getElem?_eq_getElem hi]
theorem RdJ.nil (w : World) : RdJ w (.slice none 0 0) [] := .inl ⟨rfl, none, 0, rfl, by decide, fun _ => rfl⟩
theorem g25 : goesL 25 = [10].map goL := by kernel_rfl
theorem g20 : goesL 20 = [10].map goL := by kernel_rfl
theorem g9 : goesL 9 = [].map goL := by kernel_rfl
theorem g30 : goesL 30 = [30, 20, 10].map goL := by kernel_rfl
theorem g35 : goesL 35 = [30, 20, 10].map goL := by kernel_rfl
theorem g40 : goesL 40 = [30, 20, 10].map goL := by kernel_rfl
theorem ok1 : ∀ x ∈ ([10] : List Int), (versionKeyR [97] x 0).2 = 0 := by
  intro x hx
  obtain rfl : x = 10 := by simpa using hx
  kernel_rfl
theorem ok3 : ∀ x ∈ ([30, 20, 10] : List Int), (versionKeyR [97] x 0).2 = 0 := by
  intro x hx
  simp only [List.mem_cons, List.not_mem_nil, or_false] at hx
  rcases hx with rfl | rfl | rfl <;> kernel_rfl
theorem works15 {w : World} (hw : Sh w) : Calls Tryz.prog 5 #[] w fun e w' => e = .returned (.bool true) ∧ Gr w w' := by
  have HSh := Lib.hid hw
  have HG := Lib.hid (Gr.refl w)
  clear hw
  go_enter Tryz.func5, Tryz.ntmps5
  go_wp2_with fail
  refine (takes15 25 [10] (HSh.out.gr (HG.out.alloc _)) (RdJ.lit (l := [10]) (by decide) (by decide) (heap_alloc_new _ _)) (by decide) g25 ok1 (by decide)).mono ?_
  rintro e w1 ⟨rfl, hg1⟩
  replace HG := Lib.hid ((HG.out.alloc _).trans hg1)
  clear hg1
  go_wp2_with fail
  refine (takes15 20 [10] (HSh.out.gr (HG.out.alloc _)) (RdJ.lit (l := [10]) (by decide) (by decide) (heap_alloc_new _ _)) (by decide) g20 ok1 (by decide)).mono ?_
  rintro e w1 ⟨rfl, hg1⟩
  replace HG := Lib.hid ((HG.out.alloc _).trans hg1)
  clear hg1
  go_wp2_with fail
  refine (takes15 9 [] (HSh.out.gr HG.out) (RdJ.nil _) (by decide) g9 (by simp) (by decide)).mono ?_
  rintro e w1 ⟨rfl, hg1⟩
  replace HG := Lib.hid (HG.out.trans hg1)
  clear hg1
  go_wp2_with fail
  refine (takes15 30 [30, 20, 10] (HSh.out.gr (HG.out.alloc _)) (RdJ.lit (l := [30, 20, 10]) (by decide) (by decide) (heap_alloc_new _ _)) (by decide) g30 ok3 (by decide)).mono ?_
  rintro e w1 ⟨rfl, hg1⟩
  replace HG := Lib.hid ((HG.out.alloc _).trans hg1)
  clear hg1
  go_wp2_with fail
  refine (takes15 35 [30, 20, 10] (HSh.out.gr (HG.out.alloc _)) (RdJ.lit (l := [30, 20, 10]) (by decide) (by decide) (heap_alloc_new _ _)) (by decide) g35 ok3 (by decide)).mono ?_
  rintro e w1 ⟨rfl, hg1⟩
  replace HG := Lib.hid ((HG.out.alloc _).trans hg1)
  clear hg1
  go_wp2_with fail
  refine (takes15 40 [30, 20, 10] (HSh.out.gr (HG.out.alloc _)) (RdJ.lit (l := [30, 20, 10]) (by decide) (by decide) (heap_alloc_new _ _)) (by decide) g40 ok3 (by decide)).mono ?_
  rintro e w1 ⟨rfl, hg1⟩
  replace HG := Lib.hid ((HG.out.alloc _).trans hg1)
  clear hg1
  go_wp2
  go_ret
  exact ⟨rfl, HG.out⟩
end Go.Proofs.YtocijpeminghoaaGreatDoor
