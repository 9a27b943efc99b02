/- What the rows stand on, part 51: PekO. Printed by bundle.py out of my texts. -/
import Derived.Test.YthgecojbggoniaaGreatDoorBd40
import Derived.Test.YthgecojbggoniaaGreatDoorBd42
import Derived.Test.YthgecojbggoniaaGreatDoorBd50
namespace Go.Proofs.YthgecojbggoniaaGreatDoor
open Go.RowKit
set_option maxRecDepth 100000
set_option linter.unusedVariables false
set_option linter.unusedSimpArgs false
set_option linter.unnecessarySimpa false

theorem intentR_len {R : List Rw} {key : ByteArray} {y : Itt} (h : intentR R key = some y) : y.l.length ≤ 16 := (ittOk_len (intentR_ok h)).2
theorem foundF_way (R : List Rw) (key : ByteArray) (x : Tx) : (foundF R key x).1.way.l.length ≤ 16 := by
  unfold foundF
  have hr : (restF R key x).1.way.l.length ≤ 16 := by
    unfold restF verF
    cases verRow R key (topS x).1 (topS x).2 with
    | none => simp only [Bool.false_and, Bool.false_eq_true, ↓reduceIte]; exact Nat.zero_le _
    | some y => simp only [Bool.true_and]; split <;> exact Nat.zero_le _
  cases hi : intentR R key with
  | none => exact hr
  | some y =>
    simp only
    split
    · split
      · exact Nat.zero_le _
      · split
        · exact Nat.zero_le _
        · exact hr
    · split
      · exact intentR_len hi
      · exact hr
theorem getF_way (R : List Rw) (key : ByteArray) (x : Tx) (a b : Int) : (getF R key x a b).1.way.l.length ≤ 16 := by
  unfold getF
  split
  · exact Nat.zero_le _
  · exact foundF_way R key x
def askC (key fr hi : ByteArray) (x : Tx) (a b : Int) : Array Value := #[.string key, .string fr, .string hi, .int .i64 x.id, .int .i64 x.ep, .int .i64 x.pr, .string x.an, .int .i64 x.rw, .int .i64 x.rl, .int .i64 x.ww, .int .i64 x.wl, .int .i64 x.lw, .int .i64 x.ll, .int .i64 x.bw, .int .i64 x.bl, .int .i64 a, .int .i64 b]
set_option maxHeartbeats 16000000 in
theorem peekGets_walk {w : World} {v : Value} {l : List Th} (hw : Sh w) (hl : RdT w v l) (hlen : l.length ≤ 140737488355328) (hit : ∀ x ∈ l, x.it.l.length ≤ 140737488355328) (hsz : ∀ c ∈ l, SzT c) (key fr hi : ByteArray) (x : Tx) (a b : Int) :
    Calls Tryz.prog 4 #[v, .agg (askC key fr hi x a b)] w fun e w' => e = .returned (.bool true) ∧ Gr w w' := by
  have HSh := Lib.hid hw
  have HL := Lib.hid hl
  have HIt := Lib.hid hit
  have HSz := Lib.hid (tab_szs hsz)
  have HG := Lib.hid ((Gr.refl w).alloc (.cells (askC key fr hi x a b) 30))
  have HAk := Lib.hid (heap_alloc_new w (.cells (askC key fr hi x a b) 30))
  have HR60 := Lib.hid (tab60 l)
  clear hw hl hit hsz
  unfold askC
  go_enter Tryz.func4, Tryz.ntmps4
  go_wp2_with fail
  refine (tables12 (HL.out.gr HG.out) hlen HIt.out).mono ?_
  rintro e w1 ⟨ta, tb, rfl, hT, hg⟩
  have HT := Lib.hid hT
  replace HG := Lib.hid (HG.out.trans hg)
  replace HAk := Lib.hid (hg.blk HAk.out)
  clear hg hT HL HIt
  generalize tabR (opsT l) = R at *
  have HRi := Lib.hid (tab_first HT.out.a)
  have hask := HAk.out
  unfold askC at hask
  obtain ⟨a_0, a_1, a_2, a_3, a_4, a_5, a_6, a_7, a_8, a_9, a_10, a_11, a_12, a_13, a_14, a_15, a_16, _, _, _, _, _, _, _, _, _, _, _, _, _, _, _, _, _, _⟩ := blk17 hask
  clear hask
  have HGt := Lib.hid (get12 (HSh.out.gr HG.out) HT.out.a (szw HSz.out) HSz.out key x a b)
  have HWy := Lib.hid (getF_way R key x a b)
  have HGd := Lib.hid (get_doc HRi.out key x a b)
  have HGe := Lib.hid (fun (W : World) (hg : Gr w1 W) => refGet12 (HT.out.b.gr hg) (Nat.le_trans HR60.out (by decide)) HSz.out key x a b)
  rw [← HGd.out] at HGe
  generalize getF R key x a b = gg at *
  obtain ⟨f, ee⟩ := gg
  simp only at HGt HWy HGe
  unfold txC at HGt HGe
  go_wp2_with fail
  refine HGt.out.mono ?_
  rintro e w2 ⟨vl, rfl, hrd, hg⟩
  obtain ⟨q1, n1, c1, rfl⟩ := rdc_slice hrd
  have HW1 := Lib.hid hrd
  have HX := Lib.hid hg
  replace HG := Lib.hid (HG.out.trans hg)
  replace HAk := Lib.hid (hg.blk HAk.out)
  replace HT := Lib.hid (HT.out.gr hg)
  clear hg hrd HGt
  clear a_0 a_1 a_2 a_3 a_4 a_5 a_6 a_7 a_8 a_9 a_10 a_11 a_12 a_13 a_14 a_15 a_16
  have hask := HAk.out
  unfold askC at hask
  obtain ⟨a_0, a_1, a_2, a_3, a_4, a_5, a_6, a_7, a_8, a_9, a_10, a_11, a_12, a_13, a_14, a_15, a_16, _, _, _, _, _, _, _, _, _, _, _, _, _, _, _, _, _, _⟩ := blk17 hask
  clear hask
  unfold fndA
  go_wp2_with fail
  refine calls_gen (fun w3 hg3 => ?_)
  have hgY := ((Gr.refl w2).alloc _).trans hg3
  have HF1 := Lib.hid (hg3.blk (heap_alloc_new w2 _))
  replace HX := Lib.hid (HX.out.trans hgY)
  replace HG := Lib.hid (HG.out.trans hgY)
  replace HAk := Lib.hid (hgY.blk HAk.out)
  replace HT := Lib.hid (HT.out.gr hgY)
  replace HW1 := Lib.hid (RdC.gr HW1.out hgY)
  clear hgY hg3
  clear a_0 a_1 a_2 a_3 a_4 a_5 a_6 a_7 a_8 a_9 a_10 a_11 a_12 a_13 a_14 a_15 a_16
  have hask := HAk.out
  unfold askC at hask
  obtain ⟨a_0, a_1, a_2, a_3, a_4, a_5, a_6, a_7, a_8, a_9, a_10, a_11, a_12, a_13, a_14, a_15, a_16, _, _, _, _, _, _, _, _, _, _, _, _, _, _, _, _, _, _⟩ := blk17 hask
  clear hask
  refine (HGe.out _ HX.out).mono ?_
  rintro e w4 ⟨vl, rfl, hrd, hg⟩
  obtain ⟨q2, n2, c2, rfl⟩ := rdc_slice hrd
  have HW2 := Lib.hid hrd
  replace HG := Lib.hid (HG.out.trans hg)
  replace HAk := Lib.hid (hg.blk HAk.out)
  replace HT := Lib.hid (HT.out.gr hg)
  replace HW1 := Lib.hid (RdC.gr HW1.out hg)
  replace HF1 := Lib.hid (hg.blk HF1.out)
  clear hg hrd HGe HX
  clear a_0 a_1 a_2 a_3 a_4 a_5 a_6 a_7 a_8 a_9 a_10 a_11 a_12 a_13 a_14 a_15 a_16
  unfold fndA
  go_wp2_with fail
  refine wp_gen (fun w5 hg5 => ?_)
  have hgY := ((Gr.refl w4).alloc _).trans hg5
  have HF2 := Lib.hid (hg5.blk (heap_alloc_new w4 _))
  replace HG := Lib.hid (HG.out.trans hgY)
  replace HAk := Lib.hid (hgY.blk HAk.out)
  replace HT := Lib.hid (HT.out.gr hgY)
  replace HW1 := Lib.hid (RdC.gr HW1.out hgY)
  replace HW2 := Lib.hid (RdC.gr HW2.out hgY)
  replace HF1 := Lib.hid (hgY.blk HF1.out)
  clear hgY hg5
  have HTp := Lib.hid (top_any x)
  have HTr := Lib.hid (refTop_any x)
  unfold txC at HTp HTr
  obtain ⟨vd, hvd, hown⟩ := HT.out.b.ex
  have HRd := Lib.hid (RdRw.gr (hown.rd encRow (by decide)) (Gr.refl w5).drew)
  obtain ⟨dq, dc, hve⟩ := hown.slice
  subst hve
  clear hown
  have F0 : ∀ w', Gr w5.drew w' → w'.cell? ⟨w2.heap.size, 0, none⟩ = some (.string f.key) := cellRule (w := w5.drew) (cell_of HF1.out rfl)
  have F1 : ∀ w', Gr w5.drew w' → w'.cell? ⟨w2.heap.size, 1, none⟩ = some (.string f.val) := cellRule (w := w5.drew) (cell_of HF1.out rfl)
  have F2 : ∀ w', Gr w5.drew w' → w'.cell? ⟨w2.heap.size, 2, none⟩ = some (.bool f.is) := cellRule (w := w5.drew) (cell_of HF1.out rfl)
  have F3 : ∀ w', Gr w5.drew w' → w'.cell? ⟨w2.heap.size, 3, none⟩ = some (.bool f.own) := cellRule (w := w5.drew) (cell_of HF1.out rfl)
  have F4 : ∀ w', Gr w5.drew w' → w'.cell? ⟨w2.heap.size, 4, none⟩ = some (.int .i64 f.sw) := cellRule (w := w5.drew) (cell_of HF1.out rfl)
  have F5 : ∀ w', Gr w5.drew w' → w'.cell? ⟨w2.heap.size, 5, none⟩ = some (.int .i64 f.sl) := cellRule (w := w5.drew) (cell_of HF1.out rfl)
  have F6 : ∀ w', Gr w5.drew w' → w'.cell? ⟨w2.heap.size, 6, none⟩ = some (.int .i64 f.way.id) := cellRule (w := w5.drew) (cell_of HF1.out rfl)
  have F7 : ∀ w', Gr w5.drew w' → w'.cell? ⟨w2.heap.size, 7, none⟩ = some (.int .i64 f.way.epoch) := cellRule (w := w5.drew) (cell_of HF1.out rfl)
  have F8 : ∀ w', Gr w5.drew w' → w'.cell? ⟨w2.heap.size, 8, none⟩ = some (.int .i64 f.way.prio) := cellRule (w := w5.drew) (cell_of HF1.out rfl)
  have F9 : ∀ w', Gr w5.drew w' → w'.cell? ⟨w2.heap.size, 9, none⟩ = some (.string f.way.anchor) := cellRule (w := w5.drew) (cell_of HF1.out rfl)
  have F10 : ∀ w', Gr w5.drew w' → w'.cell? ⟨w2.heap.size, 10, none⟩ = some (.int .i64 f.way.sw) := cellRule (w := w5.drew) (cell_of HF1.out rfl)
  have F11 : ∀ w', Gr w5.drew w' → w'.cell? ⟨w2.heap.size, 11, none⟩ = some (.int .i64 f.way.sl) := cellRule (w := w5.drew) (cell_of HF1.out rfl)
  have F12 : ∀ w', Gr w5.drew w' → w'.cell? ⟨w2.heap.size, 12, none⟩ = some (.int .i64 f.way.bw) := cellRule (w := w5.drew) (cell_of HF1.out rfl)
  have F13 : ∀ w', Gr w5.drew w' → w'.cell? ⟨w2.heap.size, 13, none⟩ = some (.int .i64 f.way.bl) := cellRule (w := w5.drew) (cell_of HF1.out rfl)
  have F14 : ∀ w', Gr w5.drew w' → w'.cell? ⟨w2.heap.size, 14, none⟩ = some (.slice q1 n1 c1) := cellRule (w := w5.drew) (cell_of HF1.out rfl)
  have G0 : ∀ w', Gr w5.drew w' → w'.cell? ⟨w4.heap.size, 0, none⟩ = some (.string f.key) := cellRule (w := w5.drew) (cell_of HF2.out rfl)
  have G1 : ∀ w', Gr w5.drew w' → w'.cell? ⟨w4.heap.size, 1, none⟩ = some (.string f.val) := cellRule (w := w5.drew) (cell_of HF2.out rfl)
  have G2 : ∀ w', Gr w5.drew w' → w'.cell? ⟨w4.heap.size, 2, none⟩ = some (.bool f.is) := cellRule (w := w5.drew) (cell_of HF2.out rfl)
  have G3 : ∀ w', Gr w5.drew w' → w'.cell? ⟨w4.heap.size, 3, none⟩ = some (.bool f.own) := cellRule (w := w5.drew) (cell_of HF2.out rfl)
  have G4 : ∀ w', Gr w5.drew w' → w'.cell? ⟨w4.heap.size, 4, none⟩ = some (.int .i64 f.sw) := cellRule (w := w5.drew) (cell_of HF2.out rfl)
  have G5 : ∀ w', Gr w5.drew w' → w'.cell? ⟨w4.heap.size, 5, none⟩ = some (.int .i64 f.sl) := cellRule (w := w5.drew) (cell_of HF2.out rfl)
  have G6 : ∀ w', Gr w5.drew w' → w'.cell? ⟨w4.heap.size, 6, none⟩ = some (.int .i64 f.way.id) := cellRule (w := w5.drew) (cell_of HF2.out rfl)
  have G7 : ∀ w', Gr w5.drew w' → w'.cell? ⟨w4.heap.size, 7, none⟩ = some (.int .i64 f.way.epoch) := cellRule (w := w5.drew) (cell_of HF2.out rfl)
  have G8 : ∀ w', Gr w5.drew w' → w'.cell? ⟨w4.heap.size, 8, none⟩ = some (.int .i64 f.way.prio) := cellRule (w := w5.drew) (cell_of HF2.out rfl)
  have G9 : ∀ w', Gr w5.drew w' → w'.cell? ⟨w4.heap.size, 9, none⟩ = some (.string f.way.anchor) := cellRule (w := w5.drew) (cell_of HF2.out rfl)
  have G10 : ∀ w', Gr w5.drew w' → w'.cell? ⟨w4.heap.size, 10, none⟩ = some (.int .i64 f.way.sw) := cellRule (w := w5.drew) (cell_of HF2.out rfl)
  have G11 : ∀ w', Gr w5.drew w' → w'.cell? ⟨w4.heap.size, 11, none⟩ = some (.int .i64 f.way.sl) := cellRule (w := w5.drew) (cell_of HF2.out rfl)
  have G12 : ∀ w', Gr w5.drew w' → w'.cell? ⟨w4.heap.size, 12, none⟩ = some (.int .i64 f.way.bw) := cellRule (w := w5.drew) (cell_of HF2.out rfl)
  have G13 : ∀ w', Gr w5.drew w' → w'.cell? ⟨w4.heap.size, 13, none⟩ = some (.int .i64 f.way.bl) := cellRule (w := w5.drew) (cell_of HF2.out rfl)
  have G14 : ∀ w', Gr w5.drew w' → w'.cell? ⟨w4.heap.size, 14, none⟩ = some (.slice q2 n2 c2) := cellRule (w := w5.drew) (cell_of HF2.out rfl)
  have A3 : ∀ w', Gr w5.drew w' → w'.cell? ⟨w.heap.size, 3, none⟩ = some (.int .i64 x.id) := cellRule (w := w5.drew) (cell_of HAk.out rfl)
  have A4 : ∀ w', Gr w5.drew w' → w'.cell? ⟨w.heap.size, 4, none⟩ = some (.int .i64 x.ep) := cellRule (w := w5.drew) (cell_of HAk.out rfl)
  have A5 : ∀ w', Gr w5.drew w' → w'.cell? ⟨w.heap.size, 5, none⟩ = some (.int .i64 x.pr) := cellRule (w := w5.drew) (cell_of HAk.out rfl)
  have A6 : ∀ w', Gr w5.drew w' → w'.cell? ⟨w.heap.size, 6, none⟩ = some (.string x.an) := cellRule (w := w5.drew) (cell_of HAk.out rfl)
  have A7 : ∀ w', Gr w5.drew w' → w'.cell? ⟨w.heap.size, 7, none⟩ = some (.int .i64 x.rw) := cellRule (w := w5.drew) (cell_of HAk.out rfl)
  have A8 : ∀ w', Gr w5.drew w' → w'.cell? ⟨w.heap.size, 8, none⟩ = some (.int .i64 x.rl) := cellRule (w := w5.drew) (cell_of HAk.out rfl)
  have A9 : ∀ w', Gr w5.drew w' → w'.cell? ⟨w.heap.size, 9, none⟩ = some (.int .i64 x.ww) := cellRule (w := w5.drew) (cell_of HAk.out rfl)
  have A10 : ∀ w', Gr w5.drew w' → w'.cell? ⟨w.heap.size, 10, none⟩ = some (.int .i64 x.wl) := cellRule (w := w5.drew) (cell_of HAk.out rfl)
  have A11 : ∀ w', Gr w5.drew w' → w'.cell? ⟨w.heap.size, 11, none⟩ = some (.int .i64 x.lw) := cellRule (w := w5.drew) (cell_of HAk.out rfl)
  have A12 : ∀ w', Gr w5.drew w' → w'.cell? ⟨w.heap.size, 12, none⟩ = some (.int .i64 x.ll) := cellRule (w := w5.drew) (cell_of HAk.out rfl)
  have A13 : ∀ w', Gr w5.drew w' → w'.cell? ⟨w.heap.size, 13, none⟩ = some (.int .i64 x.bw) := cellRule (w := w5.drew) (cell_of HAk.out rfl)
  have A14 : ∀ w', Gr w5.drew w' → w'.cell? ⟨w.heap.size, 14, none⟩ = some (.int .i64 x.bl) := cellRule (w := w5.drew) (cell_of HAk.out rfl)
  have D0 : ∀ w', Gr w5.drew w' → w'.cell? ⟨tb, 0, none⟩ = some (.slice dq R.length dc) := cellRule (w := w5.drew) (cell_of hvd rfl)
  clear hvd
  replace HT := Lib.hid (HT.out.gr (Gr.refl w5).drew)
  replace HW1 := Lib.hid (RdC.gr HW1.out (Gr.refl w5).drew)
  replace HW2 := Lib.hid (RdC.gr HW2.out (Gr.refl w5).drew)
  replace HG := Lib.hid (HG.out.trans (Gr.refl w5).drew)
  refine wp_region_held_drew (S := fun w' => Gr w5.drew w') (by kernel_rfl) (Gr.refl _) (fun hHeld => ?_)
  try dsimp only at hHeld
  refine wpAnyH_take (i := 0) rfl (by kernel_rfl) (by kernel_rfl) (by kernel_rfl) (fun _ _ _ h => h) (Or.inl ⟨by rfl, by intro w hSw; (try dsimp only at hSw); go_simp; (try with_reducible rfl)⟩) (by assumption) ?_; (try simp only [Act.put, List.setIfInBounds_toArray, List.set_cons_zero, List.set_cons_succ, List.getElem_toArray, List.getElem_cons_zero, List.getElem_cons_succ])
  refine wpAnyH_take (i := 1) rfl (by kernel_rfl) (by kernel_rfl) (by kernel_rfl) (fun _ _ _ h => h) (Or.inl ⟨by rfl, by intro w hSw; (try dsimp only at hSw); go_simp; (try with_reducible rfl)⟩) (by assumption) ?_; (try simp only [Act.put, List.setIfInBounds_toArray, List.set_cons_zero, List.set_cons_succ, List.getElem_toArray, List.getElem_cons_zero, List.getElem_cons_succ])
  refine wpAnyH_take (i := 2) rfl (by kernel_rfl) (by kernel_rfl) (by kernel_rfl) (fun _ _ _ h => h) (Or.inl ⟨by rfl, by intro w hSw; (try dsimp only at hSw); go_simp; (try with_reducible rfl)⟩) (by assumption) ?_; (try simp only [Act.put, List.setIfInBounds_toArray, List.set_cons_zero, List.set_cons_succ, List.getElem_toArray, List.getElem_cons_zero, List.getElem_cons_succ])
  refine wpAnyH_take (i := 3) rfl (by kernel_rfl) (by kernel_rfl) (by kernel_rfl) (fun _ _ _ h => h) (Or.inl ⟨by rfl, by intro w hSw; (try dsimp only at hSw); go_simp; (try with_reducible rfl)⟩) (by assumption) ?_; (try simp only [Act.put, List.setIfInBounds_toArray, List.set_cons_zero, List.set_cons_succ, List.getElem_toArray, List.getElem_cons_zero, List.getElem_cons_succ])
  refine wpAnyH_take (i := 4) rfl (by kernel_rfl) (by kernel_rfl) (by kernel_rfl) (fun _ _ _ h => h) (Or.inl ⟨by rfl, by intro w hSw; (try dsimp only at hSw); go_simp; (try with_reducible rfl)⟩) (by assumption) ?_; (try simp only [Act.put, List.setIfInBounds_toArray, List.set_cons_zero, List.set_cons_succ, List.getElem_toArray, List.getElem_cons_zero, List.getElem_cons_succ])
  refine wpAnyH_take (i := 6) rfl (by kernel_rfl) (by kernel_rfl) (by kernel_rfl) (fun _ _ _ h => h) (Or.inl ⟨by rfl, by intro w hSw; (try dsimp only at hSw); go_simp; (try with_reducible rfl)⟩) (by assumption) ?_; (try simp only [Act.put, List.setIfInBounds_toArray, List.set_cons_zero, List.set_cons_succ, List.getElem_toArray, List.getElem_cons_zero, List.getElem_cons_succ])
  refine wpAnyH_ready (rs := [5]) (by kernel_rfl) (by simp) ?_
  refine AllReadyH.cons rfl (fun K hK => ?_) (AllReadyH.nil)
  go_simp
  refine (found12 f q1 n1 c1 _).mono ?_
  rintro e u0 ⟨rfl, hg⟩
  refine hK.out _ _ hg (fun _ => wpAnyH_turn hg (fun hHeld => ?_))
  clear hK K
  try dsimp only at hHeld
  have A3' := Rule.turn A3 hg
  have A4' := Rule.turn A4 hg
  have A5' := Rule.turn A5 hg
  have A6' := Rule.turn A6 hg
  have A7' := Rule.turn A7 hg
  have A8' := Rule.turn A8 hg
  have A9' := Rule.turn A9 hg
  have A10' := Rule.turn A10 hg
  have A11' := Rule.turn A11 hg
  have A12' := Rule.turn A12 hg
  have A13' := Rule.turn A13 hg
  have A14' := Rule.turn A14 hg
  have D0' := Rule.turn D0 hg
  clear F0 F1 F2 F3 F4 F5 F6 F7 F8 F9 F10 F11 F12 F13 F14 G0 G1 G2 G3 G4 G5 G6 G7 G8 G9 G10 G11 G12 G13 G14 A3 A4 A5 A6 A7 A8 A9 A10 A11 A12 A13 A14 D0
  replace HT := Lib.hid (HT.out.gr hg)
  replace HG := Lib.hid (HG.out.trans hg)
  replace HW1 := Lib.hid (RdC.gr HW1.out hg)
  replace HW2 := Lib.hid (RdC.gr HW2.out hg)
  replace HRd := Lib.hid (RdRw.gr HRd.out hg)
  clear hg
  refine wpAnyH_ready (rs := [7]) (by kernel_rfl) (by simp) ?_
  refine AllReadyH.cons rfl (fun K hK => ?_) (AllReadyH.nil)
  go_simp
  refine (refSame12 f HW1.out HW2.out (by have := HWy.out; omega)).mono ?_
  rintro e u1 ⟨rfl, hg⟩
  refine hK.out _ _ hg (fun _ => wpAnyH_turn hg (fun hHeld => ?_))
  clear hK K
  try dsimp only at hHeld
  have A3'' := Rule.turn A3' hg
  have A4'' := Rule.turn A4' hg
  have A5'' := Rule.turn A5' hg
  have A6'' := Rule.turn A6' hg
  have A7'' := Rule.turn A7' hg
  have A8'' := Rule.turn A8' hg
  have A9'' := Rule.turn A9' hg
  have A10'' := Rule.turn A10' hg
  have A11'' := Rule.turn A11' hg
  have A12'' := Rule.turn A12' hg
  have A13'' := Rule.turn A13' hg
  have A14'' := Rule.turn A14' hg
  have D0'' := Rule.turn D0' hg
  clear A3' A4' A5' A6' A7' A8' A9' A10' A11' A12' A13' A14' D0'
  replace HT := Lib.hid (HT.out.gr hg)
  replace HG := Lib.hid (HG.out.trans hg)
  replace HRd := Lib.hid (RdRw.gr HRd.out hg)
  clear hg
  refine wpAnyH_take (i := 8) rfl (by kernel_rfl) (by kernel_rfl) (by kernel_rfl) (fun _ _ _ h => h) (Or.inl ⟨by rfl, by intro w hSw; (try dsimp only at hSw); go_simp; (try with_reducible rfl)⟩) (by assumption) ?_; (try simp only [Act.put, List.setIfInBounds_toArray, List.set_cons_zero, List.set_cons_succ, List.getElem_toArray, List.getElem_cons_zero, List.getElem_cons_succ])
  refine wpAnyH_take (i := 9) rfl (by kernel_rfl) (by kernel_rfl) (by kernel_rfl) (fun _ _ _ h => h) (Or.inl ⟨by rfl, by intro w hSw; (try dsimp only at hSw); go_simp; (try with_reducible rfl)⟩) (by assumption) ?_; (try simp only [Act.put, List.setIfInBounds_toArray, List.set_cons_zero, List.set_cons_succ, List.getElem_toArray, List.getElem_cons_zero, List.getElem_cons_succ])
  refine wpAnyH_take (i := 10) rfl (by kernel_rfl) (by kernel_rfl) (by kernel_rfl) (fun _ _ _ h => h) (Or.inl ⟨by rfl, by intro w hSw; (try dsimp only at hSw); go_simp; (try with_reducible rfl)⟩) (by assumption) ?_; (try simp only [Act.put, List.setIfInBounds_toArray, List.set_cons_zero, List.set_cons_succ, List.getElem_toArray, List.getElem_cons_zero, List.getElem_cons_succ])
  refine wpAnyH_take (i := 11) rfl (by kernel_rfl) (by kernel_rfl) (by kernel_rfl) (fun _ _ _ h => h) (Or.inl ⟨by rfl, by intro w hSw; (try dsimp only at hSw); go_simp; (try with_reducible rfl)⟩) (by assumption) ?_; (try simp only [Act.put, List.setIfInBounds_toArray, List.set_cons_zero, List.set_cons_succ, List.getElem_toArray, List.getElem_cons_zero, List.getElem_cons_succ])
  refine wpAnyH_take (i := 13) rfl (by kernel_rfl) (by kernel_rfl) (by kernel_rfl) (fun _ _ _ h => h) (Or.inl ⟨by rfl, by intro w hSw; (try dsimp only at hSw); go_simp; (try with_reducible rfl)⟩) (by assumption) ?_; (try simp only [Act.put, List.setIfInBounds_toArray, List.set_cons_zero, List.set_cons_succ, List.getElem_toArray, List.getElem_cons_zero, List.getElem_cons_succ])
  refine wpAnyH_take (i := 14) rfl (by kernel_rfl) (by kernel_rfl) (by kernel_rfl) (fun _ _ _ h => h) (Or.inl ⟨by rfl, by intro w hSw; (try dsimp only at hSw); go_simp; (try with_reducible rfl)⟩) (by assumption) ?_; (try simp only [Act.put, List.setIfInBounds_toArray, List.set_cons_zero, List.set_cons_succ, List.getElem_toArray, List.getElem_cons_zero, List.getElem_cons_succ])
  refine wpAnyH_ready (rs := [12]) (by kernel_rfl) (by simp) ?_
  refine AllReadyH.cons rfl (fun K hK => ?_) (AllReadyH.nil)
  go_simp
  refine (HTp.out _).mono ?_
  rintro e u2 ⟨rfl, hg⟩
  refine hK.out _ _ hg (fun _ => wpAnyH_turn hg (fun hHeld => ?_))
  clear hK K
  try dsimp only at hHeld
  have D0''' := Rule.turn D0'' hg
  clear A3'' A4'' A5'' A6'' A7'' A8'' A9'' A10'' A11'' A12'' A13'' A14'' D0''
  replace HT := Lib.hid (HT.out.gr hg)
  replace HG := Lib.hid (HG.out.trans hg)
  replace HRd := Lib.hid (RdRw.gr HRd.out hg)
  clear hg
  refine wpAnyH_ready (rs := [15]) (by kernel_rfl) (by simp) ?_
  refine AllReadyH.cons rfl (fun K hK => ?_) (AllReadyH.nil)
  go_simp
  refine (HTr.out _).mono ?_
  rintro e u3 ⟨rfl, hg⟩
  refine hK.out _ _ hg (fun _ => wpAnyH_turn hg (fun hHeld => ?_))
  clear hK K
  try dsimp only at hHeld
  have D0'''' := Rule.turn D0''' hg
  clear D0'''
  replace HT := Lib.hid (HT.out.gr hg)
  replace HG := Lib.hid (HG.out.trans hg)
  replace HRd := Lib.hid (RdRw.gr HRd.out hg)
  clear hg
  refine wpAnyH_take (i := 16) rfl (by kernel_rfl) (by kernel_rfl) (by kernel_rfl) (fun _ _ _ h => h) (Or.inl ⟨by rfl, by intro w hSw; (try dsimp only at hSw); go_simp; (try with_reducible rfl)⟩) (by assumption) ?_; (try simp only [Act.put, List.setIfInBounds_toArray, List.set_cons_zero, List.set_cons_succ, List.getElem_toArray, List.getElem_cons_zero, List.getElem_cons_succ])
  refine wpAnyH_take (i := 17) rfl (by kernel_rfl) (by kernel_rfl) (by kernel_rfl) (fun _ _ _ h => h) (Or.inl ⟨by rfl, by intro w hSw; (try dsimp only at hSw); go_simp; (try with_reducible rfl)⟩) (by assumption) ?_; (try simp only [Act.put, List.setIfInBounds_toArray, List.set_cons_zero, List.set_cons_succ, List.getElem_toArray, List.getElem_cons_zero, List.getElem_cons_succ])
  refine wpAnyH_take (i := 18) rfl (by kernel_rfl) (by kernel_rfl) (by kernel_rfl) (fun _ _ _ h => h) (Or.inl ⟨by rfl, by intro w hSw; (try dsimp only at hSw); go_simp; (try with_reducible rfl)⟩) (by assumption) ?_; (try simp only [Act.put, List.setIfInBounds_toArray, List.set_cons_zero, List.set_cons_succ, List.getElem_toArray, List.getElem_cons_zero, List.getElem_cons_succ])
  refine wpAnyH_take (i := 19) rfl (by kernel_rfl) (by kernel_rfl) (by kernel_rfl) (fun _ _ _ h => h) (Or.inl ⟨by rfl, by intro w hSw; (try dsimp only at hSw); go_simp; (try with_reducible rfl)⟩) (by assumption) ?_; (try simp only [Act.put, List.setIfInBounds_toArray, List.set_cons_zero, List.set_cons_succ, List.getElem_toArray, List.getElem_cons_zero, List.getElem_cons_succ])
  refine wpAnyH_take (i := 21) rfl (by kernel_rfl) (by kernel_rfl) (by kernel_rfl) (fun _ _ _ h => h) (Or.inl ⟨by rfl, by intro w hSw; (try dsimp only at hSw); go_simp; (try with_reducible rfl)⟩) (by assumption) ?_; (try simp only [Act.put, List.setIfInBounds_toArray, List.set_cons_zero, List.set_cons_succ, List.getElem_toArray, List.getElem_cons_zero, List.getElem_cons_succ])
  refine wpAnyH_take (i := 22) rfl (by kernel_rfl) (by kernel_rfl) (by kernel_rfl) (fun _ _ _ h => h) (Or.inl ⟨by rfl, by intro w hSw; (try dsimp only at hSw); go_simp; (try with_reducible rfl)⟩) (by assumption) ?_; (try simp only [Act.put, List.setIfInBounds_toArray, List.set_cons_zero, List.set_cons_succ, List.getElem_toArray, List.getElem_cons_zero, List.getElem_cons_succ])
  refine wpAnyH_take (i := 23) rfl (by kernel_rfl) (by kernel_rfl) (by kernel_rfl) (fun _ _ _ h => h) (Or.inl ⟨by rfl, by intro w hSw; (try dsimp only at hSw); go_simp; (try with_reducible rfl)⟩) (by assumption) ?_; (try simp only [Act.put, List.setIfInBounds_toArray, List.set_cons_zero, List.set_cons_succ, List.getElem_toArray, List.getElem_cons_zero, List.getElem_cons_succ])
  refine wpAnyH_take (i := 24) rfl (by kernel_rfl) (by kernel_rfl) (by kernel_rfl) (fun _ _ _ h => h) (Or.inl ⟨by rfl, by intro w hSw; (try dsimp only at hSw); go_simp; (try with_reducible rfl)⟩) (by assumption) ?_; (try simp only [Act.put, List.setIfInBounds_toArray, List.set_cons_zero, List.set_cons_succ, List.getElem_toArray, List.getElem_cons_zero, List.getElem_cons_succ])
  refine wpAnyH_ready (rs := [20]) (by kernel_rfl) (by simp) ?_
  refine AllReadyH.cons rfl (fun K hK => ?_) (AllReadyH.nil)
  go_simp
  refine (rows_tab HT.out.a (szw HSz.out) (Nat.le_trans HR60.out (by decide))).mono ?_
  rintro e u4 ⟨vr, rfl, hown, hg⟩
  refine hK.out _ _ hg (fun _ => wpAnyH_turn hg (fun hHeld => ?_))
  clear hK K
  try dsimp only at hHeld
  clear D0''''
  replace HT := Lib.hid (HT.out.gr hg)
  replace HG := Lib.hid (HG.out.trans hg)
  have HRa := Lib.hid (hown.rd encRow (by decide))
  obtain ⟨rq, rc, rfl⟩ := hown.slice
  have HRb := Lib.hid (RdRw.gr HRd.out hg)
  clear hown
  clear hg
  refine wpAnyH_ready (rs := [25]) (by kernel_rfl) (by simp) ?_
  refine AllReadyH.cons rfl (fun K hK => ?_) (AllReadyH.nil)
  go_simp
  refine (sameRows12 HRa.out HRb.out (Nat.le_trans HR60.out (by decide))).mono ?_
  rintro e u5 ⟨rfl, hg⟩
  refine hK.out _ _ hg (fun _ => wpAnyH_turn hg (fun hHeld => ?_))
  clear hK K
  try dsimp only at hHeld
  replace HT := Lib.hid (HT.out.gr hg)
  replace HG := Lib.hid (HG.out.trans hg)
  clear hg
  refine wpAnyH_take (i := 26) rfl (by kernel_rfl) (by kernel_rfl) (by kernel_rfl) (fun _ _ _ h => h) (Or.inl ⟨by rfl, by intro w hSw; (try dsimp only at hSw); go_simp; (try with_reducible rfl)⟩) (by assumption) ?_; (try simp only [Act.put, List.setIfInBounds_toArray, List.set_cons_zero, List.set_cons_succ, List.getElem_toArray, List.getElem_cons_zero, List.getElem_cons_succ])
  refine wpAnyH_take (i := 27) rfl (by kernel_rfl) (by kernel_rfl) (by kernel_rfl) (fun _ _ _ h => h) (Or.inl ⟨by rfl, by intro w hSw; (try dsimp only at hSw); go_simp; (try with_reducible rfl)⟩) (by assumption) ?_; (try simp only [Act.put, List.setIfInBounds_toArray, List.set_cons_zero, List.set_cons_succ, List.getElem_toArray, List.getElem_cons_zero, List.getElem_cons_succ])
  refine wpAnyH_ready (rs := [28]) (by kernel_rfl) (by simp) ?_
  refine AllReadyH.cons rfl (fun K hK => ?_) (AllReadyH.nil)
  go_simp
  refine (awake12 (HSh.out.gr HG.out)).mono ?_
  rintro e u6 ⟨rfl, hg⟩
  refine hK.out _ _ hg (fun _ => wpAnyH_turn hg (fun hHeld => ?_))
  clear hK K
  try dsimp only at hHeld
  replace HT := Lib.hid (HT.out.gr hg)
  replace HG := Lib.hid (HG.out.trans hg)
  clear hg
  refine wpAnyH_take (i := 29) rfl (by kernel_rfl) (by kernel_rfl) (by kernel_rfl) (fun _ _ _ h => h) (Or.inl ⟨by rfl, by intro w hSw; (try dsimp only at hSw); go_simp; (try with_reducible rfl)⟩) (by assumption) ?_; (try simp only [Act.put, List.setIfInBounds_toArray, List.set_cons_zero, List.set_cons_succ, List.getElem_toArray, List.getElem_cons_zero, List.getElem_cons_succ])
  refine wpAnyH_take (i := 30) rfl (by kernel_rfl) (by kernel_rfl) (by kernel_rfl) (fun _ _ _ h => h) (Or.inl ⟨by rfl, by intro w hSw; (try dsimp only at hSw); go_simp; (try with_reducible rfl)⟩) (by assumption) ?_; (try simp only [Act.put, List.setIfInBounds_toArray, List.set_cons_zero, List.set_cons_succ, List.getElem_toArray, List.getElem_cons_zero, List.getElem_cons_succ])
  refine wpAnyH_done (by kernel_rfl) ?_ _
  clear hHeld
  go_wp2
  go_ret
  exact ⟨rfl, HG.out⟩
end Go.Proofs.YthgecojbggoniaaGreatDoor
