/- What the rows stand on, part 32: ThA. Printed by bundle.py out of my texts. -/
import Derived.Test.YthgecojbggoniaaGreatDoorBe30
import Derived.Test.YthgecojbggoniaaGreatDoorBe31
import Derived.Laws.ResultCell
namespace Go.Proofs.YthgecojbggoniaaGreatDoor
open Go.RowKit
set_option maxRecDepth 100000
set_option linter.unusedVariables false
set_option linter.unusedSimpArgs false
set_option linter.unnecessarySimpa false

structure Th where
  kind : Int
  key : ByteArray
  val : ByteArray
  gone : Bool
  wall : Int
  tick : Int
  it : Itt
def thC (x : Th) (vl : Value) : List Value := [.int .i64 x.kind, .string x.key, .string x.val, .bool x.gone, .int .i64 x.wall, .int .i64 x.tick, .int .i64 x.it.id, .int .i64 x.it.epoch, .int .i64 x.it.prio, .string x.it.anchor, .int .i64 x.it.sw, .int .i64 x.it.sl, .int .i64 x.it.bw, .int .i64 x.it.bl, vl]
def ofL (l : List UInt8) : ByteArray := ⟨l.toArray⟩
def optO (b : Bool) (o : Opp) : Option Opp := if b = true then some o else none
def thVer (x : Th) : List UInt8 := if x.gone = true then [] else x.val.data.toList
def thOp (x : Th) : Option Opp :=
  if bringI x.kind 3 = 0 then (if (versionKeyR x.key.data.toList x.wall x.tick).2 = 0 ∧ versionE (thVer x) (!x.gone) = 0 then some ⟨ofL (versionKeyR x.key.data.toList x.wall x.tick).1, ofL (versionW (thVer x) (!x.gone)), false⟩ else none)
  else if bringI x.kind 3 = 1 then (if (intentKeyR x.key.data.toList).2 = 0 ∧ okE (ittOk x.it) = 0 then some ⟨ofL (intentKeyR x.key.data.toList).1, ofL (ittT x.it), false⟩ else none)
  else some ⟨x.key, x.val, false⟩
theorem results_row_tmp {P : Program} {fn : Func} {p u : Tmp} {ty : TypeId} (h : fn.results = #[.cell p ty, .tmp u]) (tmps : Array Value) (w : World) (g : Nat) (t : TypeId) (cs : Array Value) (fr : Nat × Nat) (d : TypeDesc)
    (hp : tmps.getD p undef = .pointer (some ⟨g, 0, none⟩)) (hg : w.heap[g]? = some (.cells cs t fr))
    (hu : P.underlying ty = some d) (hd : (match d with | .struct _ | .array _ _ => true | _ => false) = true) (hi : (P.info? ty).map (·.size) = some cs.size) {y : Value} (hy : tmps.getD u undef = y) :
    (results fn tmps).run P w = .ok (.tuple #[.agg cs, y]) w := by
  rw [results_cell_tmp h, hp, ← hy]
  simp [asAddr, run_loadVar_row w g t ty cs fr d hg hu hd hi, Result.andThen]
theorem tmod3 (k : Int) : k.tmod 3 = -2 ∨ k.tmod 3 = -1 ∨ k.tmod 3 = 0 ∨ k.tmod 3 = 1 ∨ k.tmod 3 = 2 := by
  have h1 := Int.tmod_lt_of_pos k (show (0 : Int) < 3 by omega)
  have h2 : -3 < k.tmod 3 := by
    have := Int.lt_tmod_of_pos k (show (0 : Int) < 3 by omega)
    omega
  omega
theorem bring3 {k m : Int} (h : k.tmod 3 = m) (h2 : -3 < m ∧ m < 3) : bringI k 3 = if m < 0 then m + 3 else m := by
  unfold bringI
  rw [if_neg (by omega)]
  rw [Int.tmod_eq_emod] at h
  have h3 := Int.emod_nonneg k (show (3 : Int) ≠ 0 by omega)
  have h4 := Int.emod_lt_of_pos k (show (0 : Int) < 3 by omega)
  split at h
  · subst h; rw [if_neg (by omega)]; omega
  · have : ((3 : Int).natAbs : Int) = 3 := rfl
    split <;> omega
set_option maxHeartbeats 8000000 in
theorem op_ver_true (kind : Int) (key val : ByteArray) (wall tick : Int) (it : Itt) {m : Int} (hm : kind.tmod 3 = m) (hm0 : m = 0) {vl : Value} {w : World} (h : RdC w vl it.l) (hlen : it.l.length ≤ 140737488355328) :
    Calls Tryz.prog 21 #[.agg #[.int .i64 kind, .string key, .string val, .bool true, .int .i64 wall, .int .i64 tick, .int .i64 it.id, .int .i64 it.epoch, .int .i64 it.prio, .string it.anchor, .int .i64 it.sw, .int .i64 it.sl, .int .i64 it.bw, .int .i64 it.bl, vl]] w fun e w' =>
      ∃ k v b, e = .returned (.tuple #[.agg #[.string k, .string v, .bool false], .bool b]) ∧ (thOp ⟨kind, key, val, true, wall, tick, it⟩ = optO b ⟨k, v, false⟩) ∧ Gr w w' := by
  obtain ⟨W0, hW0⟩ : ∃ W0, W0 = (w.alloc (.cells #[.int .i64 kind, .string key, .string val, .bool true, .int .i64 wall, .int .i64 tick, .int .i64 it.id, .int .i64 it.epoch, .int .i64 it.prio, .string it.anchor, .int .i64 it.sw, .int .i64 it.sl, .int .i64 it.bw, .int .i64 it.bl, vl] 64)).alloc (.cells #[.string ⟨#[]⟩, .string ⟨#[]⟩, .bool false] 67) := ⟨_, rfl⟩
  have HX0 : Hid (Gr w W0) := Lib.hid (by rw [hW0]; exact ((Gr.refl w).alloc _).alloc _)
  have HB : Hid (W0.heap[w.heap.size]? = some (.cells #[.int .i64 kind, .string key, .string val, .bool true, .int .i64 wall, .int .i64 tick, .int .i64 it.id, .int .i64 it.epoch, .int .i64 it.prio, .string it.anchor, .int .i64 it.sw, .int .i64 it.sl, .int .i64 it.bw, .int .i64 it.bl, vl] 64)) := Lib.hid (by rw [hW0]; exact heap_alloc1 (heap_alloc_new _ _))
  have HC : Hid (W0.heap[w.heap.size + 1]? = some (.cells #[.string ⟨#[]⟩, .string ⟨#[]⟩, .bool false] 67)) := Lib.hid (by rw [hW0]; exact heap_newn (by simp))
  have HW0 := Lib.hid hW0
  have HL := Lib.hid h
  clear h hW0
  subst hm0
  have hbr := bring3 hm (by decide)
  have HOp : Hid (thOp ⟨kind, key, val, true, wall, tick, it⟩ = if (versionKeyR key.data.toList wall tick).2 = 0 ∧ versionE [] false = 0 then some ⟨ofL (versionKeyR key.data.toList wall tick).1, ofL (versionW [] false), false⟩ else none) := Lib.hid (by unfold thOp thVer; simp only []; rw [hbr]; rfl)
  have HV : Hid (∀ w, Calls Tryz.prog 47 #[.string ⟨#[]⟩, .bool false] w fun e w' => e = .returned (.tuple #[.string ⟨(versionW [] false).toArray⟩, .int .i64 (versionE [] false)]) ∧ Gr w w') := Lib.hid (refVersion_any ⟨#[]⟩ false)
  have HVK := Lib.hid (refVersionKey_any key wall tick)
  clear hbr
  generalize versionKeyR key.data.toList wall tick = vk at *
  obtain ⟨vkl, vke⟩ := vk
  generalize versionW [] false = vw at *
  generalize versionE [] false = ve at *
  go_enter Tryz.func21, Tryz.ntmps21
  go_wp2_with fail
  rw [← HW0.out]
  refine (HVK.out _).mono ?_
  rintro e w1 ⟨rfl, hg1⟩
  have HX1 := Lib.hid (HX0.out.trans hg1)
  replace HB := Lib.hid (hg1.blk HB.out)
  replace HC := Lib.hid (hg1.blk HC.out)
  clear hg1
  obtain ⟨k_0, k_1, k_2, k_3, k_4, k_5, k_6, k_7, k_8, k_9, k_10, k_11, k_12, k_13, k_14, _, _, _, _, _, _, _, _, _, _, _, _, _, _, _, _⟩ := blk15 HB.out
  go_wp2_with fail
  refine (HV.out _).mono ?_
  rintro e w2 ⟨rfl, hg2⟩
  have HX2 := Lib.hid (HX1.out.trans hg2)
  replace HC := Lib.hid (hg2.blk HC.out)
  clear hg2 k_0 k_1 k_2 k_3 k_4 k_5 k_6 k_7 k_8 k_9 k_10 k_11 k_12 k_13 k_14
  obtain ⟨c_0, c_1, c_2, cf_0, cf_1, cf_2, _⟩ := blk3 HC.out
  by_cases hz : vke = 0
  · subst hz
    by_cases hy : ve = 0
    · subst hy
      have HR := Lib.hid (heap_set (heap_set (heap_set HC.out 0 (.string ⟨vkl.toArray⟩)) 1 (.string ⟨vw.toArray⟩)) 2 (.bool false))
      have HGf := Lib.hid (((HX2.out.setCell (p := ⟨w.heap.size + 1, 0, none⟩) (by simp) (.string ⟨vkl.toArray⟩)).setCell (p := ⟨w.heap.size + 1, 1, none⟩) (by simp) (.string ⟨vw.toArray⟩)).setCell (p := ⟨w.heap.size + 1, 2, none⟩) (by simp) (.bool false))
      have HO : Hid (thOp ⟨kind, key, val, true, wall, tick, it⟩ = optO true ⟨⟨vkl.toArray⟩, ⟨vw.toArray⟩, false⟩) := Lib.hid (by rw [HOp.out, if_pos ⟨rfl, rfl⟩]; rfl)
      go_wp2
      refine bodyPost_ret (v := .tuple #[.agg #[.string _, .string _, .bool false], .bool _]) ?_ rfl ⟨_, _, _, rfl, HO.out, HGf.out⟩
      exact results_row_tmp rfl _ _ _ _ _ _ _ rfl HR.out Tryz.underlying67 rfl (by kernel_rfl) rfl
    · have hyf : (ve == 0) = false := by simpa using hy
      have HR := Lib.hid (heap_set (heap_set (heap_set HC.out 0 (.string ⟨vkl.toArray⟩)) 1 (.string ⟨vw.toArray⟩)) 2 (.bool false))
      have HGf := Lib.hid (((HX2.out.setCell (p := ⟨w.heap.size + 1, 0, none⟩) (by simp) (.string ⟨vkl.toArray⟩)).setCell (p := ⟨w.heap.size + 1, 1, none⟩) (by simp) (.string ⟨vw.toArray⟩)).setCell (p := ⟨w.heap.size + 1, 2, none⟩) (by simp) (.bool false))
      have HO : Hid (thOp ⟨kind, key, val, true, wall, tick, it⟩ = optO false ⟨⟨vkl.toArray⟩, ⟨vw.toArray⟩, false⟩) := Lib.hid (by rw [HOp.out, if_neg (fun h => hy h.2)]; rfl)
      go_wp2
      refine bodyPost_ret (v := .tuple #[.agg #[.string _, .string _, .bool false], .bool _]) ?_ rfl ⟨_, _, _, rfl, HO.out, HGf.out⟩
      exact results_row_tmp rfl _ _ _ _ _ _ _ rfl HR.out Tryz.underlying67 rfl (by kernel_rfl) rfl
  · have hzf : (vke == 0) = false := by simpa using hz
    have HR := Lib.hid (heap_set (heap_set (heap_set HC.out 0 (.string ⟨vkl.toArray⟩)) 1 (.string ⟨vw.toArray⟩)) 2 (.bool false))
    have HGf := Lib.hid (((HX2.out.setCell (p := ⟨w.heap.size + 1, 0, none⟩) (by simp) (.string ⟨vkl.toArray⟩)).setCell (p := ⟨w.heap.size + 1, 1, none⟩) (by simp) (.string ⟨vw.toArray⟩)).setCell (p := ⟨w.heap.size + 1, 2, none⟩) (by simp) (.bool false))
    have HO : Hid (thOp ⟨kind, key, val, true, wall, tick, it⟩ = optO false ⟨⟨vkl.toArray⟩, ⟨vw.toArray⟩, false⟩) := Lib.hid (by rw [HOp.out, if_neg (fun h => hz h.1)]; rfl)
    go_wp2
    refine bodyPost_ret (v := .tuple #[.agg #[.string _, .string _, .bool false], .bool _]) ?_ rfl ⟨_, _, _, rfl, HO.out, HGf.out⟩
    exact results_row_tmp rfl _ _ _ _ _ _ _ rfl HR.out Tryz.underlying67 rfl (by kernel_rfl) rfl
set_option maxHeartbeats 8000000 in
theorem op_ver_false (kind : Int) (key val : ByteArray) (wall tick : Int) (it : Itt) {m : Int} (hm : kind.tmod 3 = m) (hm0 : m = 0) {vl : Value} {w : World} (h : RdC w vl it.l) (hlen : it.l.length ≤ 140737488355328) :
    Calls Tryz.prog 21 #[.agg #[.int .i64 kind, .string key, .string val, .bool false, .int .i64 wall, .int .i64 tick, .int .i64 it.id, .int .i64 it.epoch, .int .i64 it.prio, .string it.anchor, .int .i64 it.sw, .int .i64 it.sl, .int .i64 it.bw, .int .i64 it.bl, vl]] w fun e w' =>
      ∃ k v b, e = .returned (.tuple #[.agg #[.string k, .string v, .bool false], .bool b]) ∧ (thOp ⟨kind, key, val, false, wall, tick, it⟩ = optO b ⟨k, v, false⟩) ∧ Gr w w' := by
  obtain ⟨W0, hW0⟩ : ∃ W0, W0 = (w.alloc (.cells #[.int .i64 kind, .string key, .string val, .bool false, .int .i64 wall, .int .i64 tick, .int .i64 it.id, .int .i64 it.epoch, .int .i64 it.prio, .string it.anchor, .int .i64 it.sw, .int .i64 it.sl, .int .i64 it.bw, .int .i64 it.bl, vl] 64)).alloc (.cells #[.string ⟨#[]⟩, .string ⟨#[]⟩, .bool false] 67) := ⟨_, rfl⟩
  have HX0 : Hid (Gr w W0) := Lib.hid (by rw [hW0]; exact ((Gr.refl w).alloc _).alloc _)
  have HB : Hid (W0.heap[w.heap.size]? = some (.cells #[.int .i64 kind, .string key, .string val, .bool false, .int .i64 wall, .int .i64 tick, .int .i64 it.id, .int .i64 it.epoch, .int .i64 it.prio, .string it.anchor, .int .i64 it.sw, .int .i64 it.sl, .int .i64 it.bw, .int .i64 it.bl, vl] 64)) := Lib.hid (by rw [hW0]; exact heap_alloc1 (heap_alloc_new _ _))
  have HC : Hid (W0.heap[w.heap.size + 1]? = some (.cells #[.string ⟨#[]⟩, .string ⟨#[]⟩, .bool false] 67)) := Lib.hid (by rw [hW0]; exact heap_newn (by simp))
  have HW0 := Lib.hid hW0
  have HL := Lib.hid h
  clear h hW0
  subst hm0
  have hbr := bring3 hm (by decide)
  have HOp : Hid (thOp ⟨kind, key, val, false, wall, tick, it⟩ = if (versionKeyR key.data.toList wall tick).2 = 0 ∧ versionE val.data.toList true = 0 then some ⟨ofL (versionKeyR key.data.toList wall tick).1, ofL (versionW val.data.toList true), false⟩ else none) := Lib.hid (by unfold thOp thVer; simp only []; rw [hbr]; rfl)
  have HV := Lib.hid (refVersion_any val true)
  have HVK := Lib.hid (refVersionKey_any key wall tick)
  clear hbr
  generalize versionKeyR key.data.toList wall tick = vk at *
  obtain ⟨vkl, vke⟩ := vk
  generalize versionW val.data.toList true = vw at *
  generalize versionE val.data.toList true = ve at *
  go_enter Tryz.func21, Tryz.ntmps21
  go_wp2_with fail
  rw [← HW0.out]
  refine (HVK.out _).mono ?_
  rintro e w1 ⟨rfl, hg1⟩
  have HX1 := Lib.hid (HX0.out.trans hg1)
  replace HB := Lib.hid (hg1.blk HB.out)
  replace HC := Lib.hid (hg1.blk HC.out)
  clear hg1
  obtain ⟨k_0, k_1, k_2, k_3, k_4, k_5, k_6, k_7, k_8, k_9, k_10, k_11, k_12, k_13, k_14, _, _, _, _, _, _, _, _, _, _, _, _, _, _, _, _⟩ := blk15 HB.out
  go_wp2_with fail
  refine (HV.out _).mono ?_
  rintro e w2 ⟨rfl, hg2⟩
  have HX2 := Lib.hid (HX1.out.trans hg2)
  replace HC := Lib.hid (hg2.blk HC.out)
  clear hg2 k_0 k_1 k_2 k_3 k_4 k_5 k_6 k_7 k_8 k_9 k_10 k_11 k_12 k_13 k_14
  obtain ⟨c_0, c_1, c_2, cf_0, cf_1, cf_2, _⟩ := blk3 HC.out
  by_cases hz : vke = 0
  · subst hz
    by_cases hy : ve = 0
    · subst hy
      have HR := Lib.hid (heap_set (heap_set (heap_set HC.out 0 (.string ⟨vkl.toArray⟩)) 1 (.string ⟨vw.toArray⟩)) 2 (.bool false))
      have HGf := Lib.hid (((HX2.out.setCell (p := ⟨w.heap.size + 1, 0, none⟩) (by simp) (.string ⟨vkl.toArray⟩)).setCell (p := ⟨w.heap.size + 1, 1, none⟩) (by simp) (.string ⟨vw.toArray⟩)).setCell (p := ⟨w.heap.size + 1, 2, none⟩) (by simp) (.bool false))
      have HO : Hid (thOp ⟨kind, key, val, false, wall, tick, it⟩ = optO true ⟨⟨vkl.toArray⟩, ⟨vw.toArray⟩, false⟩) := Lib.hid (by rw [HOp.out, if_pos ⟨rfl, rfl⟩]; rfl)
      go_wp2
      refine bodyPost_ret (v := .tuple #[.agg #[.string _, .string _, .bool false], .bool _]) ?_ rfl ⟨_, _, _, rfl, HO.out, HGf.out⟩
      exact results_row_tmp rfl _ _ _ _ _ _ _ rfl HR.out Tryz.underlying67 rfl (by kernel_rfl) rfl
    · have hyf : (ve == 0) = false := by simpa using hy
      have HR := Lib.hid (heap_set (heap_set (heap_set HC.out 0 (.string ⟨vkl.toArray⟩)) 1 (.string ⟨vw.toArray⟩)) 2 (.bool false))
      have HGf := Lib.hid (((HX2.out.setCell (p := ⟨w.heap.size + 1, 0, none⟩) (by simp) (.string ⟨vkl.toArray⟩)).setCell (p := ⟨w.heap.size + 1, 1, none⟩) (by simp) (.string ⟨vw.toArray⟩)).setCell (p := ⟨w.heap.size + 1, 2, none⟩) (by simp) (.bool false))
      have HO : Hid (thOp ⟨kind, key, val, false, wall, tick, it⟩ = optO false ⟨⟨vkl.toArray⟩, ⟨vw.toArray⟩, false⟩) := Lib.hid (by rw [HOp.out, if_neg (fun h => hy h.2)]; rfl)
      go_wp2
      refine bodyPost_ret (v := .tuple #[.agg #[.string _, .string _, .bool false], .bool _]) ?_ rfl ⟨_, _, _, rfl, HO.out, HGf.out⟩
      exact results_row_tmp rfl _ _ _ _ _ _ _ rfl HR.out Tryz.underlying67 rfl (by kernel_rfl) rfl
  · have hzf : (vke == 0) = false := by simpa using hz
    have HR := Lib.hid (heap_set (heap_set (heap_set HC.out 0 (.string ⟨vkl.toArray⟩)) 1 (.string ⟨vw.toArray⟩)) 2 (.bool false))
    have HGf := Lib.hid (((HX2.out.setCell (p := ⟨w.heap.size + 1, 0, none⟩) (by simp) (.string ⟨vkl.toArray⟩)).setCell (p := ⟨w.heap.size + 1, 1, none⟩) (by simp) (.string ⟨vw.toArray⟩)).setCell (p := ⟨w.heap.size + 1, 2, none⟩) (by simp) (.bool false))
    have HO : Hid (thOp ⟨kind, key, val, false, wall, tick, it⟩ = optO false ⟨⟨vkl.toArray⟩, ⟨vw.toArray⟩, false⟩) := Lib.hid (by rw [HOp.out, if_neg (fun h => hz h.1)]; rfl)
    go_wp2
    refine bodyPost_ret (v := .tuple #[.agg #[.string _, .string _, .bool false], .bool _]) ?_ rfl ⟨_, _, _, rfl, HO.out, HGf.out⟩
    exact results_row_tmp rfl _ _ _ _ _ _ _ rfl HR.out Tryz.underlying67 rfl (by kernel_rfl) rfl
set_option maxHeartbeats 8000000 in
theorem op_int (kind : Int) (key val : ByteArray) (gone : Bool) (wall tick : Int) (it : Itt) {m : Int} (hm : kind.tmod 3 = m) (hm1 : m = -2 ∨ m = 1) {vl : Value} {w : World} (h : RdC w vl it.l) (hlen : it.l.length ≤ 140737488355328) :
    Calls Tryz.prog 21 #[.agg #[.int .i64 kind, .string key, .string val, .bool gone, .int .i64 wall, .int .i64 tick, .int .i64 it.id, .int .i64 it.epoch, .int .i64 it.prio, .string it.anchor, .int .i64 it.sw, .int .i64 it.sl, .int .i64 it.bw, .int .i64 it.bl, vl]] w fun e w' =>
      ∃ k v b, e = .returned (.tuple #[.agg #[.string k, .string v, .bool false], .bool b]) ∧ (thOp ⟨kind, key, val, gone, wall, tick, it⟩ = optO b ⟨k, v, false⟩) ∧ Gr w w' := by
  obtain ⟨W0, hW0⟩ : ∃ W0, W0 = (w.alloc (.cells #[.int .i64 kind, .string key, .string val, .bool gone, .int .i64 wall, .int .i64 tick, .int .i64 it.id, .int .i64 it.epoch, .int .i64 it.prio, .string it.anchor, .int .i64 it.sw, .int .i64 it.sl, .int .i64 it.bw, .int .i64 it.bl, vl] 64)).alloc (.cells #[.string ⟨#[]⟩, .string ⟨#[]⟩, .bool false] 67) := ⟨_, rfl⟩
  have HX0 : Hid (Gr w W0) := Lib.hid (by rw [hW0]; exact ((Gr.refl w).alloc _).alloc _)
  have HB : Hid (W0.heap[w.heap.size]? = some (.cells #[.int .i64 kind, .string key, .string val, .bool gone, .int .i64 wall, .int .i64 tick, .int .i64 it.id, .int .i64 it.epoch, .int .i64 it.prio, .string it.anchor, .int .i64 it.sw, .int .i64 it.sl, .int .i64 it.bw, .int .i64 it.bl, vl] 64)) := Lib.hid (by rw [hW0]; exact heap_alloc1 (heap_alloc_new _ _))
  have HC : Hid (W0.heap[w.heap.size + 1]? = some (.cells #[.string ⟨#[]⟩, .string ⟨#[]⟩, .bool false] 67)) := Lib.hid (by rw [hW0]; exact heap_newn (by simp))
  have HW0 := Lib.hid hW0
  have HL := Lib.hid h
  clear h hW0
  have hbr : bringI kind 3 = 1 := by rw [bring3 hm (by omega)]; split <;> omega
  have HOp : Hid (thOp ⟨kind, key, val, gone, wall, tick, it⟩ = if (intentKeyR key.data.toList).2 = 0 ∧ okE (ittOk it) = 0 then some ⟨ofL (intentKeyR key.data.toList).1, ofL (ittT it), false⟩ else none) := Lib.hid (by unfold thOp; simp only []; rw [hbr]; rfl)
  have HIK := Lib.hid (refIntentKey_any key)
  have HIT := Lib.hid (fun w' (hg : Gr w w') => refIntent_any it (HL.out.gr hg) hlen)
  clear hbr
  generalize intentKeyR key.data.toList = ik at *
  obtain ⟨vkl, vke⟩ := ik
  generalize ittT it = vw at *
  generalize okE (ittOk it) = ve at *
  rcases hm1 with rfl | rfl
  · go_enter Tryz.func21, Tryz.ntmps21
    go_wp2_with fail
    rw [← HW0.out]
    refine (HIK.out _).mono ?_
    rintro e w1 ⟨rfl, hg1⟩
    have HX1 := Lib.hid (HX0.out.trans hg1)
    replace HB := Lib.hid (hg1.blk HB.out)
    replace HC := Lib.hid (hg1.blk HC.out)
    clear hg1
    obtain ⟨k_0, k_1, k_2, k_3, k_4, k_5, k_6, k_7, k_8, k_9, k_10, k_11, k_12, k_13, k_14, _, _, _, _, _, _, _, _, _, _, _, _, _, _, _, _⟩ := blk15 HB.out
    go_wp2_with fail
    refine (HIT.out _ HX1.out).mono ?_
    rintro e w2 ⟨rfl, hg2⟩
    have HX2 := Lib.hid (HX1.out.trans hg2)
    replace HC := Lib.hid (hg2.blk HC.out)
    clear hg2 k_0 k_1 k_2 k_3 k_4 k_5 k_6 k_7 k_8 k_9 k_10 k_11 k_12 k_13 k_14
    obtain ⟨c_0, c_1, c_2, cf_0, cf_1, cf_2, _⟩ := blk3 HC.out
    by_cases hz : vke = 0
    · subst hz
      by_cases hy : ve = 0
      · subst hy
        have HR := Lib.hid (heap_set (heap_set (heap_set HC.out 0 (.string ⟨vkl.toArray⟩)) 1 (.string ⟨vw.toArray⟩)) 2 (.bool false))
        have HGf := Lib.hid (((HX2.out.setCell (p := ⟨w.heap.size + 1, 0, none⟩) (by simp) (.string ⟨vkl.toArray⟩)).setCell (p := ⟨w.heap.size + 1, 1, none⟩) (by simp) (.string ⟨vw.toArray⟩)).setCell (p := ⟨w.heap.size + 1, 2, none⟩) (by simp) (.bool false))
        have HO : Hid (thOp ⟨kind, key, val, gone, wall, tick, it⟩ = optO true ⟨⟨vkl.toArray⟩, ⟨vw.toArray⟩, false⟩) := Lib.hid (by rw [HOp.out, if_pos ⟨rfl, rfl⟩]; rfl)
        go_wp2
        refine bodyPost_ret (v := .tuple #[.agg #[.string _, .string _, .bool false], .bool _]) ?_ rfl ⟨_, _, _, rfl, HO.out, HGf.out⟩
        exact results_row_tmp rfl _ _ _ _ _ _ _ rfl HR.out Tryz.underlying67 rfl (by kernel_rfl) rfl
      · have hyf : (ve == 0) = false := by simpa using hy
        have HR := Lib.hid (heap_set (heap_set (heap_set HC.out 0 (.string ⟨vkl.toArray⟩)) 1 (.string ⟨vw.toArray⟩)) 2 (.bool false))
        have HGf := Lib.hid (((HX2.out.setCell (p := ⟨w.heap.size + 1, 0, none⟩) (by simp) (.string ⟨vkl.toArray⟩)).setCell (p := ⟨w.heap.size + 1, 1, none⟩) (by simp) (.string ⟨vw.toArray⟩)).setCell (p := ⟨w.heap.size + 1, 2, none⟩) (by simp) (.bool false))
        have HO : Hid (thOp ⟨kind, key, val, gone, wall, tick, it⟩ = optO false ⟨⟨vkl.toArray⟩, ⟨vw.toArray⟩, false⟩) := Lib.hid (by rw [HOp.out, if_neg (fun h => hy h.2)]; rfl)
        go_wp2
        refine bodyPost_ret (v := .tuple #[.agg #[.string _, .string _, .bool false], .bool _]) ?_ rfl ⟨_, _, _, rfl, HO.out, HGf.out⟩
        exact results_row_tmp rfl _ _ _ _ _ _ _ rfl HR.out Tryz.underlying67 rfl (by kernel_rfl) rfl
    · have hzf : (vke == 0) = false := by simpa using hz
      have HR := Lib.hid (heap_set (heap_set (heap_set HC.out 0 (.string ⟨vkl.toArray⟩)) 1 (.string ⟨vw.toArray⟩)) 2 (.bool false))
      have HGf := Lib.hid (((HX2.out.setCell (p := ⟨w.heap.size + 1, 0, none⟩) (by simp) (.string ⟨vkl.toArray⟩)).setCell (p := ⟨w.heap.size + 1, 1, none⟩) (by simp) (.string ⟨vw.toArray⟩)).setCell (p := ⟨w.heap.size + 1, 2, none⟩) (by simp) (.bool false))
      have HO : Hid (thOp ⟨kind, key, val, gone, wall, tick, it⟩ = optO false ⟨⟨vkl.toArray⟩, ⟨vw.toArray⟩, false⟩) := Lib.hid (by rw [HOp.out, if_neg (fun h => hz h.1)]; rfl)
      go_wp2
      refine bodyPost_ret (v := .tuple #[.agg #[.string _, .string _, .bool false], .bool _]) ?_ rfl ⟨_, _, _, rfl, HO.out, HGf.out⟩
      exact results_row_tmp rfl _ _ _ _ _ _ _ rfl HR.out Tryz.underlying67 rfl (by kernel_rfl) rfl
  · go_enter Tryz.func21, Tryz.ntmps21
    go_wp2_with fail
    rw [← HW0.out]
    refine (HIK.out _).mono ?_
    rintro e w1 ⟨rfl, hg1⟩
    have HX1 := Lib.hid (HX0.out.trans hg1)
    replace HB := Lib.hid (hg1.blk HB.out)
    replace HC := Lib.hid (hg1.blk HC.out)
    clear hg1
    obtain ⟨k_0, k_1, k_2, k_3, k_4, k_5, k_6, k_7, k_8, k_9, k_10, k_11, k_12, k_13, k_14, _, _, _, _, _, _, _, _, _, _, _, _, _, _, _, _⟩ := blk15 HB.out
    go_wp2_with fail
    refine (HIT.out _ HX1.out).mono ?_
    rintro e w2 ⟨rfl, hg2⟩
    have HX2 := Lib.hid (HX1.out.trans hg2)
    replace HC := Lib.hid (hg2.blk HC.out)
    clear hg2 k_0 k_1 k_2 k_3 k_4 k_5 k_6 k_7 k_8 k_9 k_10 k_11 k_12 k_13 k_14
    obtain ⟨c_0, c_1, c_2, cf_0, cf_1, cf_2, _⟩ := blk3 HC.out
    by_cases hz : vke = 0
    · subst hz
      by_cases hy : ve = 0
      · subst hy
        have HR := Lib.hid (heap_set (heap_set (heap_set HC.out 0 (.string ⟨vkl.toArray⟩)) 1 (.string ⟨vw.toArray⟩)) 2 (.bool false))
        have HGf := Lib.hid (((HX2.out.setCell (p := ⟨w.heap.size + 1, 0, none⟩) (by simp) (.string ⟨vkl.toArray⟩)).setCell (p := ⟨w.heap.size + 1, 1, none⟩) (by simp) (.string ⟨vw.toArray⟩)).setCell (p := ⟨w.heap.size + 1, 2, none⟩) (by simp) (.bool false))
        have HO : Hid (thOp ⟨kind, key, val, gone, wall, tick, it⟩ = optO true ⟨⟨vkl.toArray⟩, ⟨vw.toArray⟩, false⟩) := Lib.hid (by rw [HOp.out, if_pos ⟨rfl, rfl⟩]; rfl)
        go_wp2
        refine bodyPost_ret (v := .tuple #[.agg #[.string _, .string _, .bool false], .bool _]) ?_ rfl ⟨_, _, _, rfl, HO.out, HGf.out⟩
        exact results_row_tmp rfl _ _ _ _ _ _ _ rfl HR.out Tryz.underlying67 rfl (by kernel_rfl) rfl
      · have hyf : (ve == 0) = false := by simpa using hy
        have HR := Lib.hid (heap_set (heap_set (heap_set HC.out 0 (.string ⟨vkl.toArray⟩)) 1 (.string ⟨vw.toArray⟩)) 2 (.bool false))
        have HGf := Lib.hid (((HX2.out.setCell (p := ⟨w.heap.size + 1, 0, none⟩) (by simp) (.string ⟨vkl.toArray⟩)).setCell (p := ⟨w.heap.size + 1, 1, none⟩) (by simp) (.string ⟨vw.toArray⟩)).setCell (p := ⟨w.heap.size + 1, 2, none⟩) (by simp) (.bool false))
        have HO : Hid (thOp ⟨kind, key, val, gone, wall, tick, it⟩ = optO false ⟨⟨vkl.toArray⟩, ⟨vw.toArray⟩, false⟩) := Lib.hid (by rw [HOp.out, if_neg (fun h => hy h.2)]; rfl)
        go_wp2
        refine bodyPost_ret (v := .tuple #[.agg #[.string _, .string _, .bool false], .bool _]) ?_ rfl ⟨_, _, _, rfl, HO.out, HGf.out⟩
        exact results_row_tmp rfl _ _ _ _ _ _ _ rfl HR.out Tryz.underlying67 rfl (by kernel_rfl) rfl
    · have hzf : (vke == 0) = false := by simpa using hz
      have HR := Lib.hid (heap_set (heap_set (heap_set HC.out 0 (.string ⟨vkl.toArray⟩)) 1 (.string ⟨vw.toArray⟩)) 2 (.bool false))
      have HGf := Lib.hid (((HX2.out.setCell (p := ⟨w.heap.size + 1, 0, none⟩) (by simp) (.string ⟨vkl.toArray⟩)).setCell (p := ⟨w.heap.size + 1, 1, none⟩) (by simp) (.string ⟨vw.toArray⟩)).setCell (p := ⟨w.heap.size + 1, 2, none⟩) (by simp) (.bool false))
      have HO : Hid (thOp ⟨kind, key, val, gone, wall, tick, it⟩ = optO false ⟨⟨vkl.toArray⟩, ⟨vw.toArray⟩, false⟩) := Lib.hid (by rw [HOp.out, if_neg (fun h => hz h.1)]; rfl)
      go_wp2
      refine bodyPost_ret (v := .tuple #[.agg #[.string _, .string _, .bool false], .bool _]) ?_ rfl ⟨_, _, _, rfl, HO.out, HGf.out⟩
      exact results_row_tmp rfl _ _ _ _ _ _ _ rfl HR.out Tryz.underlying67 rfl (by kernel_rfl) rfl
set_option maxHeartbeats 8000000 in
theorem op_raw (kind : Int) (key val : ByteArray) (gone : Bool) (wall tick : Int) (it : Itt) {m : Int} (hm : kind.tmod 3 = m) (hm1 : m = -1 ∨ m = 2) {vl : Value} {w : World} (h : RdC w vl it.l) (hlen : it.l.length ≤ 140737488355328) :
    Calls Tryz.prog 21 #[.agg #[.int .i64 kind, .string key, .string val, .bool gone, .int .i64 wall, .int .i64 tick, .int .i64 it.id, .int .i64 it.epoch, .int .i64 it.prio, .string it.anchor, .int .i64 it.sw, .int .i64 it.sl, .int .i64 it.bw, .int .i64 it.bl, vl]] w fun e w' =>
      ∃ k v b, e = .returned (.tuple #[.agg #[.string k, .string v, .bool false], .bool b]) ∧ (thOp ⟨kind, key, val, gone, wall, tick, it⟩ = optO b ⟨k, v, false⟩) ∧ Gr w w' := by
  obtain ⟨W0, hW0⟩ : ∃ W0, W0 = (w.alloc (.cells #[.int .i64 kind, .string key, .string val, .bool gone, .int .i64 wall, .int .i64 tick, .int .i64 it.id, .int .i64 it.epoch, .int .i64 it.prio, .string it.anchor, .int .i64 it.sw, .int .i64 it.sl, .int .i64 it.bw, .int .i64 it.bl, vl] 64)).alloc (.cells #[.string ⟨#[]⟩, .string ⟨#[]⟩, .bool false] 67) := ⟨_, rfl⟩
  have HX0 : Hid (Gr w W0) := Lib.hid (by rw [hW0]; exact ((Gr.refl w).alloc _).alloc _)
  have HB : Hid (W0.heap[w.heap.size]? = some (.cells #[.int .i64 kind, .string key, .string val, .bool gone, .int .i64 wall, .int .i64 tick, .int .i64 it.id, .int .i64 it.epoch, .int .i64 it.prio, .string it.anchor, .int .i64 it.sw, .int .i64 it.sl, .int .i64 it.bw, .int .i64 it.bl, vl] 64)) := Lib.hid (by rw [hW0]; exact heap_alloc1 (heap_alloc_new _ _))
  have HC : Hid (W0.heap[w.heap.size + 1]? = some (.cells #[.string ⟨#[]⟩, .string ⟨#[]⟩, .bool false] 67)) := Lib.hid (by rw [hW0]; exact heap_newn (by simp))
  have HW0 := Lib.hid hW0
  have HL := Lib.hid h
  clear h hW0
  have hbr : bringI kind 3 = 2 := by rw [bring3 hm (by omega)]; split <;> omega
  have HOp : Hid (thOp ⟨kind, key, val, gone, wall, tick, it⟩ = some ⟨key, val, false⟩) := Lib.hid (by unfold thOp; simp only []; rw [hbr]; rfl)
  clear hbr
  rcases hm1 with rfl | rfl
  · have HO : Hid (thOp ⟨kind, key, val, gone, wall, tick, it⟩ = optO true ⟨key, val, false⟩) := Lib.hid (by rw [HOp.out]; rfl)
    clear HB HC HX0
    go_enter Tryz.func21, Tryz.ntmps21
    go_wp2
    refine bodyPost_ret (v := .tuple #[.agg #[.string key, .string val, .bool false], .bool true]) ?_ rfl ⟨_, _, _, rfl, HO.out, ((Gr.refl w).alloc _).alloc _⟩
    exact results_row_tmp rfl _ _ _ _ _ _ _ rfl (heap_newn (by simp)) Tryz.underlying67 rfl (by kernel_rfl) rfl
  · have HO : Hid (thOp ⟨kind, key, val, gone, wall, tick, it⟩ = optO true ⟨key, val, false⟩) := Lib.hid (by rw [HOp.out]; rfl)
    clear HB HC HX0
    go_enter Tryz.func21, Tryz.ntmps21
    go_wp2
    refine bodyPost_ret (v := .tuple #[.agg #[.string key, .string val, .bool false], .bool true]) ?_ rfl ⟨_, _, _, rfl, HO.out, ((Gr.refl w).alloc _).alloc _⟩
    exact results_row_tmp rfl _ _ _ _ _ _ _ rfl (heap_newn (by simp)) Tryz.underlying67 rfl (by kernel_rfl) rfl
theorem thing_op (x : Th) {vl : Value} {w : World} (h : RdC w vl x.it.l) (hlen : x.it.l.length ≤ 140737488355328) :
    Calls Tryz.prog 21 #[.agg #[.int .i64 x.kind, .string x.key, .string x.val, .bool x.gone, .int .i64 x.wall, .int .i64 x.tick, .int .i64 x.it.id, .int .i64 x.it.epoch, .int .i64 x.it.prio, .string x.it.anchor, .int .i64 x.it.sw, .int .i64 x.it.sl, .int .i64 x.it.bw, .int .i64 x.it.bl, vl]] w fun e w' =>
      ∃ k v b, e = .returned (.tuple #[.agg #[.string k, .string v, .bool false], .bool b]) ∧ (thOp x = optO b ⟨k, v, false⟩) ∧ Gr w w' := by
  obtain ⟨kind, key, val, gone, wall, tick, it⟩ := x
  rcases tmod3 kind with h1 | h1 | h1 | h1 | h1
  · exact op_int kind key val gone wall tick it h1 (.inl rfl) h hlen
  · exact op_raw kind key val gone wall tick it h1 (.inl rfl) h hlen
  · cases gone
    · exact op_ver_false kind key val wall tick it h1 rfl h hlen
    · exact op_ver_true kind key val wall tick it h1 rfl h hlen
  · exact op_int kind key val gone wall tick it h1 (.inr rfl) h hlen
  · exact op_raw kind key val gone wall tick it h1 (.inr rfl) h hlen
end Go.Proofs.YthgecojbggoniaaGreatDoor
