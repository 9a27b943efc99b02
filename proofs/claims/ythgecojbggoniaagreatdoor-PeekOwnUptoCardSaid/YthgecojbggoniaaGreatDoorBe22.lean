/- What the rows stand on, part 22: PekB. Printed by bundle.py out of my texts. -/
import Derived.Test.YthgecojbggoniaaGreatDoorBe21
namespace Go.Proofs.YthgecojbggoniaaGreatDoor
open Go.RowKit
set_option maxRecDepth 100000
set_option linter.unusedVariables false
set_option linter.unusedSimpArgs false
set_option linter.unnecessarySimpa false

def rdgC (ta : Nat) (x : Tx) : Array Value := #[.pointer (some ⟨ta, 0, none⟩), .int .i64 x.id, .int .i64 x.ep, .int .i64 x.pr, .string x.an, .int .i64 x.rw, .int .i64 x.rl, .int .i64 x.ww, .int .i64 x.wl, .int .i64 x.lw, .int .i64 x.ll, .int .i64 x.bw, .int .i64 x.bl, .int .i64 (topS x).1, .int .i64 (topS x).2]
set_option maxHeartbeats 8000000 in
theorem begins_any (ta : Nat) (ok : Bool) (x : Tx) (a b : Int) (w : World) :
    Calls Tryz.prog 34 #[.pointer (some ⟨ta, 0, none⟩), .bool ok, .agg (txC x), .agg #[.int .i64 a, .int .i64 b]] w fun e w' => ∃ rp, e = .returned (.tuple #[rp, .int .i64 (beginsE ok x a b)]) ∧ Gr w w' ∧
      (beginsE ok x a b = 0 → ∃ g, rp = .pointer (some ⟨g, 0, none⟩) ∧ w'.heap[g]? = some (.cells (rdgC ta x) 123)) := by
  have HE : Hid (beginsE ok x a b = if (!ok || !(mayT x && mayB a b)) = true then 2 else if (!lessS a b x.rw x.rl) = true then 122 else 0) := Lib.hid rfl
  have HM : Hid (mayT x = (idsB x && (mayB x.rw x.rl && mayB x.lw x.ll))) := Lib.hid rfl
  unfold txC
  by_cases hid : 1 ≤ x.id ∧ x.id ≤ 9007199254740991 ∧ 0 ≤ x.ep ∧ x.ep ≤ 9007199254740991
  · have HI : Hid (idsB x = true) := Lib.hid (decide_eq_true hid)
    obtain ⟨i1, i2, i3, i4⟩ := hid
    cases hb : (mayB x.rw x.rl && (mayB x.lw x.ll && mayB a b)) with
    | false =>
      have HR : Hid (beginsE ok x a b = 2) := Lib.hid (by rw [HE.out, if_pos]; rw [HM.out, HI.out, Bool.true_and, Bool.and_assoc, hb]; simp)
      generalize beginsE ok x a b = ee at *
      have HBd := Lib.hid hb
      clear hb HE HM
      go_enter Tryz.func34, Tryz.ntmps34
      go_wp2_with fail
      refine (pkContains_any (w := ((w.alloc (.cells #[.int .i64 x.id, .int .i64 x.ep, .int .i64 x.pr, .string x.an, .int .i64 x.rw, .int .i64 x.rl, .int .i64 x.ww, .int .i64 x.wl, .int .i64 x.lw, .int .i64 x.ll, .int .i64 x.bw, .int .i64 x.bl] 28)).alloc (.cells #[.int .i64 a, .int .i64 b] 26)).alloc (.cells #[.int .i64 x.rw, .int .i64 x.rl, .int .i64 x.lw, .int .i64 x.ll, .int .i64 a, .int .i64 b] 26)) (w.heap.size + 1 + 1) 3 [(x.rw, x.rl), (x.lw, x.ll), (a, b)] (heap_newn (by simp)) (by simp)).mono ?_
      rintro e w1 ⟨rfl, hg1⟩
      have HB := Lib.hid (hg1.blk (((Gr.refl _).alloc _).blk (((Gr.refl _).alloc _).blk (heap_alloc_new w (.cells #[.int .i64 x.id, .int .i64 x.ep, .int .i64 x.pr, .string x.an, .int .i64 x.rw, .int .i64 x.rl, .int .i64 x.ww, .int .i64 x.wl, .int .i64 x.lw, .int .i64 x.ll, .int .i64 x.bw, .int .i64 x.bl] 28)))))
      have HC := Lib.hid (hg1.blk (((Gr.refl _).alloc _).blk (heap_newn (w := w.alloc (.cells #[.int .i64 x.id, .int .i64 x.ep, .int .i64 x.pr, .string x.an, .int .i64 x.rw, .int .i64 x.rl, .int .i64 x.ww, .int .i64 x.wl, .int .i64 x.lw, .int .i64 x.ll, .int .i64 x.bw, .int .i64 x.bl] 28)) (n := w.heap.size + 1) (o := .cells #[.int .i64 a, .int .i64 b] 26) (by simp))))
      have HG := Lib.hid (((((Gr.refl w).alloc _).alloc _).alloc _).trans hg1)
      clear hg1
      have hbad : (!([(x.rw, x.rl), (x.lw, x.ll), (a, b)].all fun p => mayB p.1 p.2)) = !(mayB x.rw x.rl && (mayB x.lw x.ll && mayB a b)) := by simp
      rw [hbad]
      clear hbad
      rw [HBd.out]
      cases ok with
      | true =>
        go_wp2
        go_ret2
        exact ⟨_, by rw [HR.out]; rfl, HG.out, fun h => by rw [HR.out] at h; cases h⟩
      | false =>
        go_wp2
        go_ret2
        exact ⟨_, by rw [HR.out]; rfl, HG.out, fun h => by rw [HR.out] at h; cases h⟩
    | true =>
      cases ok with
      | false =>
        have HR : Hid (beginsE false x a b = 2) := Lib.hid (by rw [HE.out, if_pos]; simp)
        generalize beginsE false x a b = ee at *
        have HBd := Lib.hid hb
        clear hb HE HM
        go_enter Tryz.func34, Tryz.ntmps34
        go_wp2_with fail
        refine (pkContains_any (w := ((w.alloc (.cells #[.int .i64 x.id, .int .i64 x.ep, .int .i64 x.pr, .string x.an, .int .i64 x.rw, .int .i64 x.rl, .int .i64 x.ww, .int .i64 x.wl, .int .i64 x.lw, .int .i64 x.ll, .int .i64 x.bw, .int .i64 x.bl] 28)).alloc (.cells #[.int .i64 a, .int .i64 b] 26)).alloc (.cells #[.int .i64 x.rw, .int .i64 x.rl, .int .i64 x.lw, .int .i64 x.ll, .int .i64 a, .int .i64 b] 26)) (w.heap.size + 1 + 1) 3 [(x.rw, x.rl), (x.lw, x.ll), (a, b)] (heap_newn (by simp)) (by simp)).mono ?_
        rintro e w1 ⟨rfl, hg1⟩
        have HB := Lib.hid (hg1.blk (((Gr.refl _).alloc _).blk (((Gr.refl _).alloc _).blk (heap_alloc_new w (.cells #[.int .i64 x.id, .int .i64 x.ep, .int .i64 x.pr, .string x.an, .int .i64 x.rw, .int .i64 x.rl, .int .i64 x.ww, .int .i64 x.wl, .int .i64 x.lw, .int .i64 x.ll, .int .i64 x.bw, .int .i64 x.bl] 28)))))
        have HC := Lib.hid (hg1.blk (((Gr.refl _).alloc _).blk (heap_newn (w := w.alloc (.cells #[.int .i64 x.id, .int .i64 x.ep, .int .i64 x.pr, .string x.an, .int .i64 x.rw, .int .i64 x.rl, .int .i64 x.ww, .int .i64 x.wl, .int .i64 x.lw, .int .i64 x.ll, .int .i64 x.bw, .int .i64 x.bl] 28)) (n := w.heap.size + 1) (o := .cells #[.int .i64 a, .int .i64 b] 26) (by simp))))
        have HG := Lib.hid (((((Gr.refl w).alloc _).alloc _).alloc _).trans hg1)
        clear hg1
        have hbad : (!([(x.rw, x.rl), (x.lw, x.ll), (a, b)].all fun p => mayB p.1 p.2)) = !(mayB x.rw x.rl && (mayB x.lw x.ll && mayB a b)) := by simp
        rw [hbad]
        clear hbad
        rw [HBd.out]
        go_wp2
        go_ret2
        exact ⟨_, by rw [HR.out]; rfl, HG.out, fun h => by rw [HR.out] at h; cases h⟩
      | true =>
        have HLs := Lib.hid (fun w => less_any a b x.rw x.rl w)
        cases hl : lessS a b x.rw x.rl with
        | false =>
          have HR : Hid (beginsE true x a b = 122) := Lib.hid (by rw [HE.out, if_neg, if_pos]; rw [hl]; rfl; rw [HM.out, HI.out, Bool.true_and, Bool.and_assoc, hb]; simp)
          rw [hl] at HLs
          generalize beginsE true x a b = ee at *
          have HBd := Lib.hid hb
          clear hb HE HM hl
          go_enter Tryz.func34, Tryz.ntmps34
          go_wp2_with fail
          refine (pkContains_any (w := ((w.alloc (.cells #[.int .i64 x.id, .int .i64 x.ep, .int .i64 x.pr, .string x.an, .int .i64 x.rw, .int .i64 x.rl, .int .i64 x.ww, .int .i64 x.wl, .int .i64 x.lw, .int .i64 x.ll, .int .i64 x.bw, .int .i64 x.bl] 28)).alloc (.cells #[.int .i64 a, .int .i64 b] 26)).alloc (.cells #[.int .i64 x.rw, .int .i64 x.rl, .int .i64 x.lw, .int .i64 x.ll, .int .i64 a, .int .i64 b] 26)) (w.heap.size + 1 + 1) 3 [(x.rw, x.rl), (x.lw, x.ll), (a, b)] (heap_newn (by simp)) (by simp)).mono ?_
          rintro e w1 ⟨rfl, hg1⟩
          have HB := Lib.hid (hg1.blk (((Gr.refl _).alloc _).blk (((Gr.refl _).alloc _).blk (heap_alloc_new w (.cells #[.int .i64 x.id, .int .i64 x.ep, .int .i64 x.pr, .string x.an, .int .i64 x.rw, .int .i64 x.rl, .int .i64 x.ww, .int .i64 x.wl, .int .i64 x.lw, .int .i64 x.ll, .int .i64 x.bw, .int .i64 x.bl] 28)))))
          have HC := Lib.hid (hg1.blk (((Gr.refl _).alloc _).blk (heap_newn (w := w.alloc (.cells #[.int .i64 x.id, .int .i64 x.ep, .int .i64 x.pr, .string x.an, .int .i64 x.rw, .int .i64 x.rl, .int .i64 x.ww, .int .i64 x.wl, .int .i64 x.lw, .int .i64 x.ll, .int .i64 x.bw, .int .i64 x.bl] 28)) (n := w.heap.size + 1) (o := .cells #[.int .i64 a, .int .i64 b] 26) (by simp))))
          have HG := Lib.hid (((((Gr.refl w).alloc _).alloc _).alloc _).trans hg1)
          clear hg1
          have hbad : (!([(x.rw, x.rl), (x.lw, x.ll), (a, b)].all fun p => mayB p.1 p.2)) = !(mayB x.rw x.rl && (mayB x.lw x.ll && mayB a b)) := by simp
          rw [hbad]
          clear hbad
          rw [HBd.out]
          obtain ⟨k_0, k_1, k_2, k_3, k_4, k_5, k_6, k_7, k_8, k_9, k_10, k_11, _, _, _, _, _, _, _, _, _, _, _, _, _⟩ := blk12 HB.out
          obtain ⟨c_0, c_1, _, _, _⟩ := blk2 HC.out
          go_wp2_with fail
          refine (HLs.out _).mono ?_
          rintro e w2 ⟨rfl, hg2⟩
          have HG2 := Lib.hid (HG.out.trans hg2)
          clear hg2 k_0 k_1 k_2 k_3 k_4 k_5 k_6 k_7 k_8 k_9 k_10 k_11 c_0 c_1
          go_wp2
          go_ret2
          exact ⟨_, by rw [HR.out]; rfl, HG2.out, fun h => by rw [HR.out] at h; cases h⟩
        | true =>
          have HR : Hid (beginsE true x a b = 0) := Lib.hid (by rw [HE.out, if_neg, if_neg]; rw [hl]; simp; rw [HM.out, HI.out, Bool.true_and, Bool.and_assoc, hb]; simp)
          rw [hl] at HLs
          generalize beginsE true x a b = ee at *
          have HBd := Lib.hid hb
          have HTp := Lib.hid (top_any x)
          unfold txC at HTp
          clear hb HE HM hl
          go_enter Tryz.func34, Tryz.ntmps34
          go_wp2_with fail
          refine (pkContains_any (w := ((w.alloc (.cells #[.int .i64 x.id, .int .i64 x.ep, .int .i64 x.pr, .string x.an, .int .i64 x.rw, .int .i64 x.rl, .int .i64 x.ww, .int .i64 x.wl, .int .i64 x.lw, .int .i64 x.ll, .int .i64 x.bw, .int .i64 x.bl] 28)).alloc (.cells #[.int .i64 a, .int .i64 b] 26)).alloc (.cells #[.int .i64 x.rw, .int .i64 x.rl, .int .i64 x.lw, .int .i64 x.ll, .int .i64 a, .int .i64 b] 26)) (w.heap.size + 1 + 1) 3 [(x.rw, x.rl), (x.lw, x.ll), (a, b)] (heap_newn (by simp)) (by simp)).mono ?_
          rintro e w1 ⟨rfl, hg1⟩
          have HB := Lib.hid (hg1.blk (((Gr.refl _).alloc _).blk (((Gr.refl _).alloc _).blk (heap_alloc_new w (.cells #[.int .i64 x.id, .int .i64 x.ep, .int .i64 x.pr, .string x.an, .int .i64 x.rw, .int .i64 x.rl, .int .i64 x.ww, .int .i64 x.wl, .int .i64 x.lw, .int .i64 x.ll, .int .i64 x.bw, .int .i64 x.bl] 28)))))
          have HC := Lib.hid (hg1.blk (((Gr.refl _).alloc _).blk (heap_newn (w := w.alloc (.cells #[.int .i64 x.id, .int .i64 x.ep, .int .i64 x.pr, .string x.an, .int .i64 x.rw, .int .i64 x.rl, .int .i64 x.ww, .int .i64 x.wl, .int .i64 x.lw, .int .i64 x.ll, .int .i64 x.bw, .int .i64 x.bl] 28)) (n := w.heap.size + 1) (o := .cells #[.int .i64 a, .int .i64 b] 26) (by simp))))
          have HG := Lib.hid (((((Gr.refl w).alloc _).alloc _).alloc _).trans hg1)
          clear hg1
          have hbad : (!([(x.rw, x.rl), (x.lw, x.ll), (a, b)].all fun p => mayB p.1 p.2)) = !(mayB x.rw x.rl && (mayB x.lw x.ll && mayB a b)) := by simp
          rw [hbad]
          clear hbad
          rw [HBd.out]
          obtain ⟨k_0, k_1, k_2, k_3, k_4, k_5, k_6, k_7, k_8, k_9, k_10, k_11, _, _, _, _, _, _, _, _, _, _, _, _, _⟩ := blk12 HB.out
          obtain ⟨c_0, c_1, _, _, _⟩ := blk2 HC.out
          go_wp2_with fail
          refine (HLs.out _).mono ?_
          rintro e w2 ⟨rfl, hg2⟩
          have HG2 := Lib.hid (HG.out.trans hg2)
          have HB2 := Lib.hid (hg2.blk HB.out)
          clear hg2 k_0 k_1 k_2 k_3 k_4 k_5 k_6 k_7 k_8 k_9 k_10 k_11 c_0 c_1
          obtain ⟨k_0, k_1, k_2, k_3, k_4, k_5, k_6, k_7, k_8, k_9, k_10, k_11, _, _, _, _, _, _, _, _, _, _, _, _, _⟩ := blk12 HB2.out
          go_wp2
          go_region_with (go_at_call 16; refine (HTp.out _).mono ?_; rintro e w3 ⟨rfl, hg3⟩; have HX3 := Lib.hid ((Gr.refl w2).drew.trans hg3); obtain ⟨j_0, j_1, j_2, j_3, j_4, j_5, j_6, j_7, j_8, j_9, j_10, j_11, _, _, _, _, _, _, _, _, _, _, _, _, _⟩ := blk12 (HX3.out.blk HB2.out))
          all_goals clear hg3 k_0 k_1 k_2 k_3 k_4 k_5 k_6 k_7 k_8 k_9 k_10 k_11 j_0 j_1 j_2 j_3 j_4 j_5 j_6 j_7 j_8 j_9 j_10 j_11
          all_goals go_wp2
          all_goals go_ret2
          all_goals exact ⟨_, by rw [HR.out]; rfl, (HG2.out.trans HX3.out).alloc _, fun _ => ⟨_, rfl, heap_alloc_new _ _⟩⟩
  · have HI : Hid (idsB x = false) := Lib.hid (decide_eq_false hid)
    have HR : Hid (beginsE ok x a b = 2) := Lib.hid (by rw [HE.out, if_pos]; rw [HM.out, HI.out]; simp)
    generalize beginsE ok x a b = ee at *
    clear HE HM
    have hor : ¬ 1 ≤ x.id ∨ (1 ≤ x.id ∧ ¬ x.id ≤ 9007199254740991) ∨ ((1 ≤ x.id ∧ x.id ≤ 9007199254740991) ∧ ¬ 0 ≤ x.ep) ∨ ((1 ≤ x.id ∧ x.id ≤ 9007199254740991) ∧ 0 ≤ x.ep ∧ ¬ x.ep ≤ 9007199254740991) := by omega
    clear hid
    rcases hor with i1 | ⟨i1, i2⟩ | ⟨⟨i1, i2⟩, i3⟩ | ⟨⟨i1, i2⟩, i3, i4⟩
    · skip
      go_enter Tryz.func34, Tryz.ntmps34
      go_wp2_with fail
      refine (pkContains_any (w := ((w.alloc (.cells #[.int .i64 x.id, .int .i64 x.ep, .int .i64 x.pr, .string x.an, .int .i64 x.rw, .int .i64 x.rl, .int .i64 x.ww, .int .i64 x.wl, .int .i64 x.lw, .int .i64 x.ll, .int .i64 x.bw, .int .i64 x.bl] 28)).alloc (.cells #[.int .i64 a, .int .i64 b] 26)).alloc (.cells #[.int .i64 x.rw, .int .i64 x.rl, .int .i64 x.lw, .int .i64 x.ll, .int .i64 a, .int .i64 b] 26)) (w.heap.size + 1 + 1) 3 [(x.rw, x.rl), (x.lw, x.ll), (a, b)] (heap_newn (by simp)) (by simp)).mono ?_
      rintro e w1 ⟨rfl, hg1⟩
      have HB := Lib.hid (hg1.blk (((Gr.refl _).alloc _).blk (((Gr.refl _).alloc _).blk (heap_alloc_new w (.cells #[.int .i64 x.id, .int .i64 x.ep, .int .i64 x.pr, .string x.an, .int .i64 x.rw, .int .i64 x.rl, .int .i64 x.ww, .int .i64 x.wl, .int .i64 x.lw, .int .i64 x.ll, .int .i64 x.bw, .int .i64 x.bl] 28)))))
      have HC := Lib.hid (hg1.blk (((Gr.refl _).alloc _).blk (heap_newn (w := w.alloc (.cells #[.int .i64 x.id, .int .i64 x.ep, .int .i64 x.pr, .string x.an, .int .i64 x.rw, .int .i64 x.rl, .int .i64 x.ww, .int .i64 x.wl, .int .i64 x.lw, .int .i64 x.ll, .int .i64 x.bw, .int .i64 x.bl] 28)) (n := w.heap.size + 1) (o := .cells #[.int .i64 a, .int .i64 b] 26) (by simp))))
      have HG := Lib.hid (((((Gr.refl w).alloc _).alloc _).alloc _).trans hg1)
      clear hg1
      have hbad : (!([(x.rw, x.rl), (x.lw, x.ll), (a, b)].all fun p => mayB p.1 p.2)) = !(mayB x.rw x.rl && (mayB x.lw x.ll && mayB a b)) := by simp
      rw [hbad]
      clear hbad
      generalize (!(mayB x.rw x.rl && (mayB x.lw x.ll && mayB a b))) = bad
      cases ok with
      | true =>
        go_wp2
        go_ret2
        exact ⟨_, by rw [HR.out]; rfl, HG.out, fun h => by rw [HR.out] at h; cases h⟩
      | false =>
        go_wp2
        go_ret2
        exact ⟨_, by rw [HR.out]; rfl, HG.out, fun h => by rw [HR.out] at h; cases h⟩
    · skip
      go_enter Tryz.func34, Tryz.ntmps34
      go_wp2_with fail
      refine (pkContains_any (w := ((w.alloc (.cells #[.int .i64 x.id, .int .i64 x.ep, .int .i64 x.pr, .string x.an, .int .i64 x.rw, .int .i64 x.rl, .int .i64 x.ww, .int .i64 x.wl, .int .i64 x.lw, .int .i64 x.ll, .int .i64 x.bw, .int .i64 x.bl] 28)).alloc (.cells #[.int .i64 a, .int .i64 b] 26)).alloc (.cells #[.int .i64 x.rw, .int .i64 x.rl, .int .i64 x.lw, .int .i64 x.ll, .int .i64 a, .int .i64 b] 26)) (w.heap.size + 1 + 1) 3 [(x.rw, x.rl), (x.lw, x.ll), (a, b)] (heap_newn (by simp)) (by simp)).mono ?_
      rintro e w1 ⟨rfl, hg1⟩
      have HB := Lib.hid (hg1.blk (((Gr.refl _).alloc _).blk (((Gr.refl _).alloc _).blk (heap_alloc_new w (.cells #[.int .i64 x.id, .int .i64 x.ep, .int .i64 x.pr, .string x.an, .int .i64 x.rw, .int .i64 x.rl, .int .i64 x.ww, .int .i64 x.wl, .int .i64 x.lw, .int .i64 x.ll, .int .i64 x.bw, .int .i64 x.bl] 28)))))
      have HC := Lib.hid (hg1.blk (((Gr.refl _).alloc _).blk (heap_newn (w := w.alloc (.cells #[.int .i64 x.id, .int .i64 x.ep, .int .i64 x.pr, .string x.an, .int .i64 x.rw, .int .i64 x.rl, .int .i64 x.ww, .int .i64 x.wl, .int .i64 x.lw, .int .i64 x.ll, .int .i64 x.bw, .int .i64 x.bl] 28)) (n := w.heap.size + 1) (o := .cells #[.int .i64 a, .int .i64 b] 26) (by simp))))
      have HG := Lib.hid (((((Gr.refl w).alloc _).alloc _).alloc _).trans hg1)
      clear hg1
      have hbad : (!([(x.rw, x.rl), (x.lw, x.ll), (a, b)].all fun p => mayB p.1 p.2)) = !(mayB x.rw x.rl && (mayB x.lw x.ll && mayB a b)) := by simp
      rw [hbad]
      clear hbad
      generalize (!(mayB x.rw x.rl && (mayB x.lw x.ll && mayB a b))) = bad
      cases ok with
      | true =>
        go_wp2
        go_ret2
        exact ⟨_, by rw [HR.out]; rfl, HG.out, fun h => by rw [HR.out] at h; cases h⟩
      | false =>
        go_wp2
        go_ret2
        exact ⟨_, by rw [HR.out]; rfl, HG.out, fun h => by rw [HR.out] at h; cases h⟩
    · skip
      go_enter Tryz.func34, Tryz.ntmps34
      go_wp2_with fail
      refine (pkContains_any (w := ((w.alloc (.cells #[.int .i64 x.id, .int .i64 x.ep, .int .i64 x.pr, .string x.an, .int .i64 x.rw, .int .i64 x.rl, .int .i64 x.ww, .int .i64 x.wl, .int .i64 x.lw, .int .i64 x.ll, .int .i64 x.bw, .int .i64 x.bl] 28)).alloc (.cells #[.int .i64 a, .int .i64 b] 26)).alloc (.cells #[.int .i64 x.rw, .int .i64 x.rl, .int .i64 x.lw, .int .i64 x.ll, .int .i64 a, .int .i64 b] 26)) (w.heap.size + 1 + 1) 3 [(x.rw, x.rl), (x.lw, x.ll), (a, b)] (heap_newn (by simp)) (by simp)).mono ?_
      rintro e w1 ⟨rfl, hg1⟩
      have HB := Lib.hid (hg1.blk (((Gr.refl _).alloc _).blk (((Gr.refl _).alloc _).blk (heap_alloc_new w (.cells #[.int .i64 x.id, .int .i64 x.ep, .int .i64 x.pr, .string x.an, .int .i64 x.rw, .int .i64 x.rl, .int .i64 x.ww, .int .i64 x.wl, .int .i64 x.lw, .int .i64 x.ll, .int .i64 x.bw, .int .i64 x.bl] 28)))))
      have HC := Lib.hid (hg1.blk (((Gr.refl _).alloc _).blk (heap_newn (w := w.alloc (.cells #[.int .i64 x.id, .int .i64 x.ep, .int .i64 x.pr, .string x.an, .int .i64 x.rw, .int .i64 x.rl, .int .i64 x.ww, .int .i64 x.wl, .int .i64 x.lw, .int .i64 x.ll, .int .i64 x.bw, .int .i64 x.bl] 28)) (n := w.heap.size + 1) (o := .cells #[.int .i64 a, .int .i64 b] 26) (by simp))))
      have HG := Lib.hid (((((Gr.refl w).alloc _).alloc _).alloc _).trans hg1)
      clear hg1
      have hbad : (!([(x.rw, x.rl), (x.lw, x.ll), (a, b)].all fun p => mayB p.1 p.2)) = !(mayB x.rw x.rl && (mayB x.lw x.ll && mayB a b)) := by simp
      rw [hbad]
      clear hbad
      generalize (!(mayB x.rw x.rl && (mayB x.lw x.ll && mayB a b))) = bad
      cases ok with
      | true =>
        go_wp2
        go_ret2
        exact ⟨_, by rw [HR.out]; rfl, HG.out, fun h => by rw [HR.out] at h; cases h⟩
      | false =>
        go_wp2
        go_ret2
        exact ⟨_, by rw [HR.out]; rfl, HG.out, fun h => by rw [HR.out] at h; cases h⟩
    · skip
      go_enter Tryz.func34, Tryz.ntmps34
      go_wp2_with fail
      refine (pkContains_any (w := ((w.alloc (.cells #[.int .i64 x.id, .int .i64 x.ep, .int .i64 x.pr, .string x.an, .int .i64 x.rw, .int .i64 x.rl, .int .i64 x.ww, .int .i64 x.wl, .int .i64 x.lw, .int .i64 x.ll, .int .i64 x.bw, .int .i64 x.bl] 28)).alloc (.cells #[.int .i64 a, .int .i64 b] 26)).alloc (.cells #[.int .i64 x.rw, .int .i64 x.rl, .int .i64 x.lw, .int .i64 x.ll, .int .i64 a, .int .i64 b] 26)) (w.heap.size + 1 + 1) 3 [(x.rw, x.rl), (x.lw, x.ll), (a, b)] (heap_newn (by simp)) (by simp)).mono ?_
      rintro e w1 ⟨rfl, hg1⟩
      have HB := Lib.hid (hg1.blk (((Gr.refl _).alloc _).blk (((Gr.refl _).alloc _).blk (heap_alloc_new w (.cells #[.int .i64 x.id, .int .i64 x.ep, .int .i64 x.pr, .string x.an, .int .i64 x.rw, .int .i64 x.rl, .int .i64 x.ww, .int .i64 x.wl, .int .i64 x.lw, .int .i64 x.ll, .int .i64 x.bw, .int .i64 x.bl] 28)))))
      have HC := Lib.hid (hg1.blk (((Gr.refl _).alloc _).blk (heap_newn (w := w.alloc (.cells #[.int .i64 x.id, .int .i64 x.ep, .int .i64 x.pr, .string x.an, .int .i64 x.rw, .int .i64 x.rl, .int .i64 x.ww, .int .i64 x.wl, .int .i64 x.lw, .int .i64 x.ll, .int .i64 x.bw, .int .i64 x.bl] 28)) (n := w.heap.size + 1) (o := .cells #[.int .i64 a, .int .i64 b] 26) (by simp))))
      have HG := Lib.hid (((((Gr.refl w).alloc _).alloc _).alloc _).trans hg1)
      clear hg1
      have hbad : (!([(x.rw, x.rl), (x.lw, x.ll), (a, b)].all fun p => mayB p.1 p.2)) = !(mayB x.rw x.rl && (mayB x.lw x.ll && mayB a b)) := by simp
      rw [hbad]
      clear hbad
      generalize (!(mayB x.rw x.rl && (mayB x.lw x.ll && mayB a b))) = bad
      cases ok with
      | true =>
        go_wp2
        go_ret2
        exact ⟨_, by rw [HR.out]; rfl, HG.out, fun h => by rw [HR.out] at h; cases h⟩
      | false =>
        go_wp2
        go_ret2
        exact ⟨_, by rw [HR.out]; rfl, HG.out, fun h => by rw [HR.out] at h; cases h⟩
end Go.Proofs.YthgecojbggoniaaGreatDoor
