/- What the rows stand on, part 48: PekN. Printed by bundle.py out of my texts. -/
import Derived.Test.YthgecojbggoniaaGreatDoorBe18
import Derived.Test.YthgecojbggoniaaGreatDoorBe45
import Derived.Test.YthgecojbggoniaaGreatDoorBe47
namespace Go.Proofs.YthgecojbggoniaaGreatDoor
open Go.RowKit
set_option maxRecDepth 100000
set_option linter.unusedVariables false
set_option linter.unusedSimpArgs false
set_option linter.unnecessarySimpa false

theorem calls_gen {P : Program} {f : FuncId} {args : Array Value} {w : World} {K : Ending → World → Prop} (k : ∀ W9, Gr w W9 → Calls P f args W9 K) : Calls P f args w K := k w (Gr.refl w)
theorem wp_gen {P : Program} {c : Code} {Q : Exit → Act → World → Prop} {a : Act} {w : World} (k : ∀ W9, Gr w W9 → c.wp P Q a W9) : c.wp P Q a w := k w (Gr.refl w)
theorem getC {ta : Nat} {S : Nat → Prop} {R : List Rw} {w : World} (hw : Sh w) (h : TabAt ta S R w) (hsz : ∀ x ∈ R, SzP x) {key : ByteArray} {x : Tx} {f : Fnd} {fe : Int} (hg : getF R key x 0 0 = (f, fe)) :
    Calls Tryz.prog 11 #[.pointer (some ⟨ta, 0, none⟩), .string key, .agg (txC x), .agg #[.int .i64 0, .int .i64 0]] w fun e w' => ∃ q n c, e = .returned (.tuple #[.agg (fndA f (.slice q n c)), .int .i64 fe]) ∧ RdC w' (.slice q n c) f.way.l ∧ Gr w w' := by
  have := get12 hw h (szw hsz) hsz key x 0 0
  rw [hg] at this
  refine this.mono ?_
  rintro e w' ⟨vl, rfl, hrd, hg'⟩
  obtain ⟨q, n, c, rfl⟩ := rdc_slice hrd
  exact ⟨q, n, c, rfl, hrd, hg'⟩
/-- the things ahead, with an intent behind them -/
theorem app_pair {w5 : World} {v5 : Value} {N g : Nat} {i : Itt} (h : OwnG 64 15 thE w5 N v5 (vPair ++ [(tI i, (some ⟨g, 0, none⟩, 1, 1))])) (hc : RdC w5 (.slice (some ⟨g, 0, none⟩) 1 1) i.l) : RdT w5 v5 (tPair ++ [tI i]) := by
  refine rdt_of (h.rd encTh (by decide)) (fun p hp => ?_)
  simp only [vPair, List.cons_append, List.nil_append, List.mem_cons, List.not_mem_nil, or_false] at hp
  rcases hp with rfl | rfl | rfl
  · exact nilC_rd _
  · exact nilC_rd _
  · exact hc
theorem pair_rdt {w : World} {v : Value} {N : Nat} (h : OwnG 64 15 thE w N v vPair) : RdT w v tPair :=
  rdt_of (l := vPair) (h.rd encTh (by decide)) (fun p hp => by
    simp only [vPair, List.mem_cons, List.not_mem_nil, or_false] at hp
    rcases hp with rfl | rfl <;> exact nilC_rd _)
theorem near_turn {WX wA wB w5 : World} {v v5 : Value} {g : Nat} {i : Itt} (hoA : OwnG 64 15 thE wA WX.heap.size v vPair) (hA : Gr WX wA) (hB : Gr wA wB) (hg : wA.heap.size ≤ g) (hc : RdC wB (.slice (some ⟨g, 0, none⟩) 1 1) i.l) {o : Obj} (hgr : (wB.alloc o).grownBy w5 v.ownBlock)
    (hown5 : OwnG 64 15 thE w5 WX.heap.size v5 (vPair ++ [(tI i, (some ⟨g, 0, none⟩, 1, 1))])) : Gr WX w5 ∧ RdT w5 v5 (tPair ++ [tI i]) := by
  refine ⟨OwnG.grew ((hA.trans hB).alloc o) (hoA.gr (hB.alloc o)) hgr, app_pair hown5 ?_⟩
  rcases hc with ⟨h1, h2⟩ | ⟨blk, off, cap, h1, h2, h3, h4, h5, h6⟩
  · exact .inl ⟨h1, h2⟩
  · injection h1 with e1 e2 e3
    injection e1 with e1
    injection e1 with e4 e5 e6
    subst e4 e5 e3
    have hb : w5.heap[g]? = wB.heap[g]? := by
      have h7 : (wB.alloc o).heap[g]? = wB.heap[g]? := by
        rw [Array.getElem?_eq_getElem h5]
        exact ((Gr.refl wB).alloc o).blk (Array.getElem?_eq_getElem h5)
      rw [← h7]
      refine hgr.block g (by simp; omega) (fun e => ?_)
      have := (World.ownsRow.lt hoA g e.symm).2
      omega
    have hs := hgr.size
    refine .inr ⟨g, 0, 1, by rw [← e2], h2, h3, h4, by simp at hs; omega, fun k hk => ?_⟩
    obtain ⟨ds, d1, d2, d3⟩ := h6 k hk
    exact ⟨ds, d1, fun j hj => (World.cell?_of_block hb).trans (d2 j hj), d3⟩
theorem pair_lens {i : Itt} (h : i.l.length ≤ 140737488355328) : ∀ x ∈ tPair ++ [tI i], x.it.l.length ≤ 140737488355328 := by
  intro x hx
  simp only [tPair, List.cons_append, List.nil_append, List.mem_cons, List.not_mem_nil, or_false] at hx
  rcases hx with rfl | rfl | rfl
  · exact Nat.zero_le _
  · exact Nat.zero_le _
  · exact h
set_option maxHeartbeats 16000000 in
theorem awake12 {w : World} (hw : Sh w) : Calls Tryz.prog 10 #[] w fun e w' => e = .returned (.bool true) ∧ Gr w w' := by
  have HSh := Lib.hid hw
  have HG := Lib.hid (Gr.refl w)
  clear hw
  go_enter Tryz.func10, Tryz.ntmps10
  go_wp2_with fail
  refine (pair12 _).mono ?_
  rintro e wA ⟨vA, rfl, hoA, hgA⟩
  replace HG := Lib.hid (HG.out.trans hgA)
  obtain ⟨qA, cA, rfl⟩ := hoA.slice
  clear hgA
  go_wp2_with fail
  refine (tables12 (pair_rdt hoA) (by decide) (by decide)).mono ?_
  rintro e wB ⟨ta, tb, rfl, hT, hgB⟩
  replace HG := Lib.hid (HG.out.trans hgB)
  have HT0 := Lib.hid hT
  clear hT hgB hoA
  go_wp2_with fail
  refine (reader12 15 15 _).mono ?_
  rintro e wR ⟨rfl, hgR⟩
  replace HG := Lib.hid (HG.out.trans hgR)
  replace HT0 := Lib.hid (HT0.out.gr hgR)
  clear hgR
  go_wp2_with fail
  refine (getC (HSh.out.gr HG.out) HT0.out.a sPair g1).mono ?_
  rintro e wS ⟨fq3, fn3, fc3, rfl, hrd, hgS⟩
  replace HG := Lib.hid (HG.out.trans hgS)
  replace HT0 := Lib.hid (HT0.out.gr hgS)
  clear hrd hgS
  unfold fndA
  go_wp2_with fail
  refine calls_gen (fun WX hgX => ?_)
  have hgY := ((Gr.refl wS).alloc _).trans hgX
  replace HG := Lib.hid (HG.out.trans hgY)
  replace HT0 := Lib.hid (HT0.out.gr hgY)
  have HF3 := Lib.hid (hgX.blk (heap_alloc_new wS _))
  clear hgX hgY
  generalize wS.heap.size = b3 at *
  go_wp2_with fail
  refine (reader12 15 25 _).mono ?_
  rintro e wR ⟨rfl, hgR⟩
  replace HG := Lib.hid (HG.out.trans hgR)
  replace HT0 := Lib.hid (HT0.out.gr hgR)
  replace HF3 := Lib.hid (hgR.blk HF3.out)
  clear hgR
  go_wp2_with fail
  refine (getC (HSh.out.gr HG.out) HT0.out.a sPair g2).mono ?_
  rintro e wS ⟨fq5, fn5, fc5, rfl, hrd, hgS⟩
  replace HG := Lib.hid (HG.out.trans hgS)
  replace HT0 := Lib.hid (HT0.out.gr hgS)
  replace HF3 := Lib.hid (hgS.blk HF3.out)
  clear hrd hgS
  unfold fndA
  go_wp2_with fail
  refine calls_gen (fun WX hgX => ?_)
  have hgY := ((Gr.refl wS).alloc _).trans hgX
  replace HG := Lib.hid (HG.out.trans hgY)
  replace HT0 := Lib.hid (HT0.out.gr hgY)
  replace HF3 := Lib.hid (hgY.blk HF3.out)
  have HF5 := Lib.hid (hgX.blk (heap_alloc_new wS _))
  clear hgX hgY
  generalize wS.heap.size = b5 at *
  go_wp2_with fail
  refine (reader12 10 10 _).mono ?_
  rintro e wR ⟨rfl, hgR⟩
  replace HG := Lib.hid (HG.out.trans hgR)
  replace HT0 := Lib.hid (HT0.out.gr hgR)
  replace HF3 := Lib.hid (hgR.blk HF3.out)
  replace HF5 := Lib.hid (hgR.blk HF5.out)
  clear hgR
  go_wp2_with fail
  refine (getC (HSh.out.gr HG.out) HT0.out.a sPair g3).mono ?_
  rintro e wS ⟨fq7, fn7, fc7, rfl, hrd, hgS⟩
  replace HG := Lib.hid (HG.out.trans hgS)
  replace HT0 := Lib.hid (HT0.out.gr hgS)
  replace HF3 := Lib.hid (hgS.blk HF3.out)
  replace HF5 := Lib.hid (hgS.blk HF5.out)
  clear hrd hgS
  unfold fndA
  go_wp2_with fail
  refine calls_gen (fun WX hgX => ?_)
  have hgY := ((Gr.refl wS).alloc _).trans hgX
  replace HG := Lib.hid (HG.out.trans hgY)
  replace HT0 := Lib.hid (HT0.out.gr hgY)
  replace HF3 := Lib.hid (hgY.blk HF3.out)
  replace HF5 := Lib.hid (hgY.blk HF5.out)
  have HF7 := Lib.hid (hgX.blk (heap_alloc_new wS _))
  clear hgX hgY
  generalize wS.heap.size = b7 at *
  refine (pair12 _).mono ?_
  rintro e wA ⟨vA, rfl, hoA, hgA⟩
  obtain ⟨qA, cA, rfl⟩ := hoA.slice
  have HN := Lib.hid hoA
  have HA := Lib.hid hgA
  clear hgA hoA
  go_wp2_with fail
  refine (mkIntent12 9 15 ⟨#[122]⟩ false _).mono ?_
  rintro e wB ⟨gB, rfl, hzB, hrB, hgB⟩
  have HC := Lib.hid hrB
  have HB := Lib.hid hgB
  have HZ := Lib.hid hzB
  clear hgB hrB hzB
  go_wp2_with (at_builtin; go_loud (refine app_gen elTh encTh (N := WX.heap.size) (by have h1 := HA.out.size; have h2 := HB.out.size; simp; omega) (by rfl) _ _ (by rfl) vPair [(tI (iLit 9 15 ⟨#[122]⟩ false), (some ⟨gB, 0, none⟩, 1, 1))] (by rfl) (by rfl) (HN.out.gr (HB.out.alloc _)) (RdE.one encTh wB 64 (tI (iLit 9 15 ⟨#[122]⟩ false), (some ⟨gB, 0, none⟩, 1, 1)) (by simp) rfl) (by show (2 + 1) * 160 ≤ _; decide) (by show 2 + 1 ≤ _; decide) ?_; intro v5 w5 hown5 hgr5; obtain ⟨hg5, hr5⟩ := near_turn HN.out HA.out HB.out HZ.out HC.out hgr5 hown5; have HR5 := Lib.hid hr5; have HG5 := Lib.hid hg5; clear hown5 hgr5 hg5 hr5; clear HN HA HB HZ HC))
  replace HG := Lib.hid (HG.out.trans HG5.out)
  replace HT0 := Lib.hid (HT0.out.gr HG5.out)
  replace HF3 := Lib.hid (HG5.out.blk HF3.out)
  replace HF5 := Lib.hid (HG5.out.blk HF5.out)
  replace HF7 := Lib.hid (HG5.out.blk HF7.out)
  refine (tables12 HR5.out (by decide) (pair_lens (by decide))).mono ?_
  rintro e wC ⟨ta9, tb9, rfl, hT, hgC⟩
  replace HG := Lib.hid (HG.out.trans hgC)
  replace HT0 := Lib.hid (HT0.out.gr hgC)
  replace HF3 := Lib.hid (hgC.blk HF3.out)
  replace HF5 := Lib.hid (hgC.blk HF5.out)
  replace HF7 := Lib.hid (hgC.blk HF7.out)
  have HT9 := Lib.hid hT
  clear hT hgC HR5 HG5
  go_wp2_with fail
  refine (reader12 15 15 _).mono ?_
  rintro e wR ⟨rfl, hgR⟩
  replace HG := Lib.hid (HG.out.trans hgR)
  replace HT0 := Lib.hid (HT0.out.gr hgR)
  replace HF3 := Lib.hid (hgR.blk HF3.out)
  replace HF5 := Lib.hid (hgR.blk HF5.out)
  replace HF7 := Lib.hid (hgR.blk HF7.out)
  replace HT9 := Lib.hid (HT9.out.gr hgR)
  clear hgR
  go_wp2_with fail
  refine (getC (HSh.out.gr HG.out) HT9.out.a sNear g4).mono ?_
  rintro e wS ⟨fq11, fn11, fc11, rfl, hrd, hgS⟩
  replace HG := Lib.hid (HG.out.trans hgS)
  replace HT0 := Lib.hid (HT0.out.gr hgS)
  replace HF3 := Lib.hid (hgS.blk HF3.out)
  replace HF5 := Lib.hid (hgS.blk HF5.out)
  replace HF7 := Lib.hid (hgS.blk HF7.out)
  replace HT9 := Lib.hid (HT9.out.gr hgS)
  clear hrd hgS
  unfold fndA
  go_wp2_with fail
  refine calls_gen (fun WX hgX => ?_)
  have hgY := ((Gr.refl wS).alloc _).trans hgX
  replace HG := Lib.hid (HG.out.trans hgY)
  replace HT0 := Lib.hid (HT0.out.gr hgY)
  replace HF3 := Lib.hid (hgY.blk HF3.out)
  replace HF5 := Lib.hid (hgY.blk HF5.out)
  replace HF7 := Lib.hid (hgY.blk HF7.out)
  replace HT9 := Lib.hid (HT9.out.gr hgY)
  have HF11 := Lib.hid (hgX.blk (heap_alloc_new wS _))
  clear hgX hgY
  generalize wS.heap.size = b11 at *
  refine (pair12 _).mono ?_
  rintro e wA ⟨vA, rfl, hoA, hgA⟩
  obtain ⟨qA, cA, rfl⟩ := hoA.slice
  have HN := Lib.hid hoA
  have HA := Lib.hid hgA
  clear hgA hoA
  go_wp2_with fail
  refine (mkIntent12 9 16 ⟨#[122]⟩ false _).mono ?_
  rintro e wB ⟨gB, rfl, hzB, hrB, hgB⟩
  have HC := Lib.hid hrB
  have HB := Lib.hid hgB
  have HZ := Lib.hid hzB
  clear hgB hrB hzB
  go_wp2_with (at_builtin; go_loud (refine app_gen elTh encTh (N := WX.heap.size) (by have h1 := HA.out.size; have h2 := HB.out.size; simp; omega) (by rfl) _ _ (by rfl) vPair [(tI (iLit 9 16 ⟨#[122]⟩ false), (some ⟨gB, 0, none⟩, 1, 1))] (by rfl) (by rfl) (HN.out.gr (HB.out.alloc _)) (RdE.one encTh wB 64 (tI (iLit 9 16 ⟨#[122]⟩ false), (some ⟨gB, 0, none⟩, 1, 1)) (by simp) rfl) (by show (2 + 1) * 160 ≤ _; decide) (by show 2 + 1 ≤ _; decide) ?_; intro v5 w5 hown5 hgr5; obtain ⟨hg5, hr5⟩ := near_turn HN.out HA.out HB.out HZ.out HC.out hgr5 hown5; have HR5 := Lib.hid hr5; have HG5 := Lib.hid hg5; clear hown5 hgr5 hg5 hr5; clear HN HA HB HZ HC))
  replace HG := Lib.hid (HG.out.trans HG5.out)
  replace HT0 := Lib.hid (HT0.out.gr HG5.out)
  replace HF3 := Lib.hid (HG5.out.blk HF3.out)
  replace HF5 := Lib.hid (HG5.out.blk HF5.out)
  replace HF7 := Lib.hid (HG5.out.blk HF7.out)
  replace HT9 := Lib.hid (HT9.out.gr HG5.out)
  replace HF11 := Lib.hid (HG5.out.blk HF11.out)
  refine (tables12 HR5.out (by decide) (pair_lens (by decide))).mono ?_
  rintro e wC ⟨ta13, tb13, rfl, hT, hgC⟩
  replace HG := Lib.hid (HG.out.trans hgC)
  replace HT0 := Lib.hid (HT0.out.gr hgC)
  replace HF3 := Lib.hid (hgC.blk HF3.out)
  replace HF5 := Lib.hid (hgC.blk HF5.out)
  replace HF7 := Lib.hid (hgC.blk HF7.out)
  replace HT9 := Lib.hid (HT9.out.gr hgC)
  replace HF11 := Lib.hid (hgC.blk HF11.out)
  have HT13 := Lib.hid hT
  clear hT hgC HR5 HG5
  go_wp2_with fail
  refine (reader12 15 15 _).mono ?_
  rintro e wR ⟨rfl, hgR⟩
  replace HG := Lib.hid (HG.out.trans hgR)
  replace HT0 := Lib.hid (HT0.out.gr hgR)
  replace HF3 := Lib.hid (hgR.blk HF3.out)
  replace HF5 := Lib.hid (hgR.blk HF5.out)
  replace HF7 := Lib.hid (hgR.blk HF7.out)
  replace HT9 := Lib.hid (HT9.out.gr hgR)
  replace HF11 := Lib.hid (hgR.blk HF11.out)
  replace HT13 := Lib.hid (HT13.out.gr hgR)
  clear hgR
  go_wp2_with fail
  refine (getC (HSh.out.gr HG.out) HT13.out.a sFar g5).mono ?_
  rintro e wS ⟨fq15, fn15, fc15, rfl, hrd, hgS⟩
  replace HG := Lib.hid (HG.out.trans hgS)
  replace HT0 := Lib.hid (HT0.out.gr hgS)
  replace HF3 := Lib.hid (hgS.blk HF3.out)
  replace HF5 := Lib.hid (hgS.blk HF5.out)
  replace HF7 := Lib.hid (hgS.blk HF7.out)
  replace HT9 := Lib.hid (HT9.out.gr hgS)
  replace HF11 := Lib.hid (hgS.blk HF11.out)
  replace HT13 := Lib.hid (HT13.out.gr hgS)
  clear hrd hgS
  unfold fndA
  go_wp2_with fail
  refine calls_gen (fun WX hgX => ?_)
  have hgY := ((Gr.refl wS).alloc _).trans hgX
  replace HG := Lib.hid (HG.out.trans hgY)
  replace HT0 := Lib.hid (HT0.out.gr hgY)
  replace HF3 := Lib.hid (hgY.blk HF3.out)
  replace HF5 := Lib.hid (hgY.blk HF5.out)
  replace HF7 := Lib.hid (hgY.blk HF7.out)
  replace HT9 := Lib.hid (HT9.out.gr hgY)
  replace HF11 := Lib.hid (hgY.blk HF11.out)
  replace HT13 := Lib.hid (HT13.out.gr hgY)
  have HF15 := Lib.hid (hgX.blk (heap_alloc_new wS _))
  clear hgX hgY
  generalize wS.heap.size = b15 at *
  refine (pair12 _).mono ?_
  rintro e wA ⟨vA, rfl, hoA, hgA⟩
  obtain ⟨qA, cA, rfl⟩ := hoA.slice
  have HN := Lib.hid hoA
  have HA := Lib.hid hgA
  clear hgA hoA
  go_wp2_with fail
  refine (mkIntent12 7 15 ⟨#[]⟩ true _).mono ?_
  rintro e wB ⟨gB, rfl, hzB, hrB, hgB⟩
  have HC := Lib.hid hrB
  have HB := Lib.hid hgB
  have HZ := Lib.hid hzB
  clear hgB hrB hzB
  go_wp2_with (at_builtin; go_loud (refine app_gen elTh encTh (N := WX.heap.size) (by have h1 := HA.out.size; have h2 := HB.out.size; simp; omega) (by rfl) _ _ (by rfl) vPair [(tI (iLit 7 15 ⟨#[]⟩ true), (some ⟨gB, 0, none⟩, 1, 1))] (by rfl) (by rfl) (HN.out.gr (HB.out.alloc _)) (RdE.one encTh wB 64 (tI (iLit 7 15 ⟨#[]⟩ true), (some ⟨gB, 0, none⟩, 1, 1)) (by simp) rfl) (by show (2 + 1) * 160 ≤ _; decide) (by show 2 + 1 ≤ _; decide) ?_; intro v5 w5 hown5 hgr5; obtain ⟨hg5, hr5⟩ := near_turn HN.out HA.out HB.out HZ.out HC.out hgr5 hown5; have HR5 := Lib.hid hr5; have HG5 := Lib.hid hg5; clear hown5 hgr5 hg5 hr5; clear HN HA HB HZ HC))
  replace HG := Lib.hid (HG.out.trans HG5.out)
  replace HT0 := Lib.hid (HT0.out.gr HG5.out)
  replace HF3 := Lib.hid (HG5.out.blk HF3.out)
  replace HF5 := Lib.hid (HG5.out.blk HF5.out)
  replace HF7 := Lib.hid (HG5.out.blk HF7.out)
  replace HT9 := Lib.hid (HT9.out.gr HG5.out)
  replace HF11 := Lib.hid (HG5.out.blk HF11.out)
  replace HT13 := Lib.hid (HT13.out.gr HG5.out)
  replace HF15 := Lib.hid (HG5.out.blk HF15.out)
  refine (tables12 HR5.out (by decide) (pair_lens (by decide))).mono ?_
  rintro e wC ⟨ta17, tb17, rfl, hT, hgC⟩
  replace HG := Lib.hid (HG.out.trans hgC)
  replace HT0 := Lib.hid (HT0.out.gr hgC)
  replace HF3 := Lib.hid (hgC.blk HF3.out)
  replace HF5 := Lib.hid (hgC.blk HF5.out)
  replace HF7 := Lib.hid (hgC.blk HF7.out)
  replace HT9 := Lib.hid (HT9.out.gr hgC)
  replace HF11 := Lib.hid (hgC.blk HF11.out)
  replace HT13 := Lib.hid (HT13.out.gr hgC)
  replace HF15 := Lib.hid (hgC.blk HF15.out)
  have HT17 := Lib.hid hT
  clear hT hgC HR5 HG5
  go_wp2_with fail
  refine (reader12 15 15 _).mono ?_
  rintro e wR ⟨rfl, hgR⟩
  replace HG := Lib.hid (HG.out.trans hgR)
  replace HT0 := Lib.hid (HT0.out.gr hgR)
  replace HF3 := Lib.hid (hgR.blk HF3.out)
  replace HF5 := Lib.hid (hgR.blk HF5.out)
  replace HF7 := Lib.hid (hgR.blk HF7.out)
  replace HT9 := Lib.hid (HT9.out.gr hgR)
  replace HF11 := Lib.hid (hgR.blk HF11.out)
  replace HT13 := Lib.hid (HT13.out.gr hgR)
  replace HF15 := Lib.hid (hgR.blk HF15.out)
  replace HT17 := Lib.hid (HT17.out.gr hgR)
  clear hgR
  go_wp2_with fail
  refine (getC (HSh.out.gr HG.out) HT17.out.a sOwn g6).mono ?_
  rintro e wS ⟨fq19, fn19, fc19, rfl, hrd, hgS⟩
  replace HG := Lib.hid (HG.out.trans hgS)
  replace HT0 := Lib.hid (HT0.out.gr hgS)
  replace HF3 := Lib.hid (hgS.blk HF3.out)
  replace HF5 := Lib.hid (hgS.blk HF5.out)
  replace HF7 := Lib.hid (hgS.blk HF7.out)
  replace HT9 := Lib.hid (HT9.out.gr hgS)
  replace HF11 := Lib.hid (hgS.blk HF11.out)
  replace HT13 := Lib.hid (HT13.out.gr hgS)
  replace HF15 := Lib.hid (hgS.blk HF15.out)
  replace HT17 := Lib.hid (HT17.out.gr hgS)
  clear hrd hgS
  unfold fndA
  go_wp2_with fail
  refine wp_gen (fun WX hgX => ?_)
  have hgY := ((Gr.refl wS).alloc _).trans hgX
  replace HG := Lib.hid (HG.out.trans hgY)
  replace HT0 := Lib.hid (HT0.out.gr hgY)
  replace HF3 := Lib.hid (hgY.blk HF3.out)
  replace HF5 := Lib.hid (hgY.blk HF5.out)
  replace HF7 := Lib.hid (hgY.blk HF7.out)
  replace HT9 := Lib.hid (HT9.out.gr hgY)
  replace HF11 := Lib.hid (hgY.blk HF11.out)
  replace HT13 := Lib.hid (HT13.out.gr hgY)
  replace HF15 := Lib.hid (hgY.blk HF15.out)
  replace HT17 := Lib.hid (HT17.out.gr hgY)
  have HF19 := Lib.hid (hgX.blk (heap_alloc_new wS _))
  clear hgX hgY
  generalize wS.heap.size = b19 at *
  have F31 : ∀ w', Gr WX.drew w' → w'.cell? ⟨b3, 1, none⟩ = some (.string ⟨#[120]⟩) := cellRule (w := WX.drew) (cell_of HF3.out rfl)
  have F32 : ∀ w', Gr WX.drew w' → w'.cell? ⟨b3, 2, none⟩ = some (.bool true) := cellRule (w := WX.drew) (cell_of HF3.out rfl)
  have F34 : ∀ w', Gr WX.drew w' → w'.cell? ⟨b3, 4, none⟩ = some (.int .i64 10) := cellRule (w := WX.drew) (cell_of HF3.out rfl)
  have F35 : ∀ w', Gr WX.drew w' → w'.cell? ⟨b3, 5, none⟩ = some (.int .i64 0) := cellRule (w := WX.drew) (cell_of HF3.out rfl)
  have F54 : ∀ w', Gr WX.drew w' → w'.cell? ⟨b5, 4, none⟩ = some (.int .i64 20) := cellRule (w := WX.drew) (cell_of HF5.out rfl)
  have F55 : ∀ w', Gr WX.drew w' → w'.cell? ⟨b5, 5, none⟩ = some (.int .i64 0) := cellRule (w := WX.drew) (cell_of HF5.out rfl)
  have F74 : ∀ w', Gr WX.drew w' → w'.cell? ⟨b7, 4, none⟩ = some (.int .i64 10) := cellRule (w := WX.drew) (cell_of HF7.out rfl)
  have F75 : ∀ w', Gr WX.drew w' → w'.cell? ⟨b7, 5, none⟩ = some (.int .i64 0) := cellRule (w := WX.drew) (cell_of HF7.out rfl)
  refine wp_region_held_drew (S := fun w' => Gr WX.drew w') (by kernel_rfl) (Gr.refl _) (fun hHeld => ?_)
  try dsimp only at hHeld
  refine wpAnyH_take (i := 0) rfl (by kernel_rfl) (by kernel_rfl) (by kernel_rfl) (fun _ _ _ h => h) (Or.inl ⟨by rfl, by intro w hSw; (try dsimp only at hSw); go_simp; (try with_reducible rfl)⟩) (by assumption) ?_; (try simp only [Act.put, List.setIfInBounds_toArray, List.set_cons_zero, List.set_cons_succ, List.getElem_toArray, List.getElem_cons_zero, List.getElem_cons_succ])
  refine wpAnyH_take (i := 1) rfl (by kernel_rfl) (by kernel_rfl) (by kernel_rfl) (fun _ _ _ h => h) (Or.inl ⟨by rfl, by intro w hSw; (try dsimp only at hSw); go_simp; (try with_reducible rfl)⟩) (by assumption) ?_; (try simp only [Act.put, List.setIfInBounds_toArray, List.set_cons_zero, List.set_cons_succ, List.getElem_toArray, List.getElem_cons_zero, List.getElem_cons_succ])
  refine wpAnyH_take (i := 2) rfl (by kernel_rfl) (by kernel_rfl) (by kernel_rfl) (fun _ _ _ h => h) (Or.inl ⟨by rfl, by intro w hSw; (try dsimp only at hSw); go_simp; (try with_reducible rfl)⟩) (by assumption) ?_; (try simp only [Act.put, List.setIfInBounds_toArray, List.set_cons_zero, List.set_cons_succ, List.getElem_toArray, List.getElem_cons_zero, List.getElem_cons_succ])
  refine wpAnyH_take (i := 3) rfl (by kernel_rfl) (by kernel_rfl) (by kernel_rfl) (fun _ _ _ h => h) (Or.inl ⟨by rfl, by intro w hSw; (try dsimp only at hSw); go_simp; (try with_reducible rfl)⟩) (by assumption) ?_; (try simp only [Act.put, List.setIfInBounds_toArray, List.set_cons_zero, List.set_cons_succ, List.getElem_toArray, List.getElem_cons_zero, List.getElem_cons_succ])
  refine wpAnyH_take (i := 4) rfl (by kernel_rfl) (by kernel_rfl) (by kernel_rfl) (fun _ _ _ h => h) (Or.inl ⟨by rfl, by intro w hSw; (try dsimp only at hSw); go_simp; (try with_reducible rfl)⟩) (by assumption) ?_; (try simp only [Act.put, List.setIfInBounds_toArray, List.set_cons_zero, List.set_cons_succ, List.getElem_toArray, List.getElem_cons_zero, List.getElem_cons_succ])
  refine wpAnyH_take (i := 5) rfl (by kernel_rfl) (by kernel_rfl) (by kernel_rfl) (fun _ _ _ h => h) (Or.inl ⟨by rfl, by intro w hSw; (try dsimp only at hSw); go_simp; (try with_reducible rfl)⟩) (by assumption) ?_; (try simp only [Act.put, List.setIfInBounds_toArray, List.set_cons_zero, List.set_cons_succ, List.getElem_toArray, List.getElem_cons_zero, List.getElem_cons_succ])
  refine wpAnyH_take (i := 6) rfl (by kernel_rfl) (by kernel_rfl) (by kernel_rfl) (fun _ _ _ h => h) (Or.inl ⟨by rfl, by intro w hSw; (try dsimp only at hSw); go_simp; (try with_reducible rfl)⟩) (by assumption) ?_; (try simp only [Act.put, List.setIfInBounds_toArray, List.set_cons_zero, List.set_cons_succ, List.getElem_toArray, List.getElem_cons_zero, List.getElem_cons_succ])
  refine wpAnyH_take (i := 7) rfl (by kernel_rfl) (by kernel_rfl) (by kernel_rfl) (fun _ _ _ h => h) (Or.inl ⟨by rfl, by intro w hSw; (try dsimp only at hSw); go_simp; (try with_reducible rfl)⟩) (by assumption) ?_; (try simp only [Act.put, List.setIfInBounds_toArray, List.set_cons_zero, List.set_cons_succ, List.getElem_toArray, List.getElem_cons_zero, List.getElem_cons_succ])
  refine wpAnyH_take (i := 8) rfl (by kernel_rfl) (by kernel_rfl) (by kernel_rfl) (fun _ _ _ h => h) (Or.inl ⟨by rfl, by intro w hSw; (try dsimp only at hSw); go_simp; (try with_reducible rfl)⟩) (by assumption) ?_; (try simp only [Act.put, List.setIfInBounds_toArray, List.set_cons_zero, List.set_cons_succ, List.getElem_toArray, List.getElem_cons_zero, List.getElem_cons_succ])
  refine wpAnyH_take (i := 9) rfl (by kernel_rfl) (by kernel_rfl) (by kernel_rfl) (fun _ _ _ h => h) (Or.inl ⟨by rfl, by intro w hSw; (try dsimp only at hSw); go_simp; (try with_reducible rfl)⟩) (by assumption) ?_; (try simp only [Act.put, List.setIfInBounds_toArray, List.set_cons_zero, List.set_cons_succ, List.getElem_toArray, List.getElem_cons_zero, List.getElem_cons_succ])
  refine wpAnyH_take (i := 10) rfl (by kernel_rfl) (by kernel_rfl) (by kernel_rfl) (fun _ _ _ h => h) (Or.inl ⟨by rfl, by intro w hSw; (try dsimp only at hSw); go_simp; (try with_reducible rfl)⟩) (by assumption) ?_; (try simp only [Act.put, List.setIfInBounds_toArray, List.set_cons_zero, List.set_cons_succ, List.getElem_toArray, List.getElem_cons_zero, List.getElem_cons_succ])
  refine wpAnyH_take (i := 11) rfl (by kernel_rfl) (by kernel_rfl) (by kernel_rfl) (fun _ _ _ h => h) (Or.inl ⟨by rfl, by intro w hSw; (try dsimp only at hSw); go_simp; (try with_reducible rfl)⟩) (by assumption) ?_; (try simp only [Act.put, List.setIfInBounds_toArray, List.set_cons_zero, List.set_cons_succ, List.getElem_toArray, List.getElem_cons_zero, List.getElem_cons_succ])
  refine wpAnyH_take (i := 12) rfl (by kernel_rfl) (by kernel_rfl) (by kernel_rfl) (fun _ _ _ h => h) (Or.inl ⟨by rfl, by intro w hSw; (try dsimp only at hSw); go_simp; (try with_reducible rfl)⟩) (by assumption) ?_; (try simp only [Act.put, List.setIfInBounds_toArray, List.set_cons_zero, List.set_cons_succ, List.getElem_toArray, List.getElem_cons_zero, List.getElem_cons_succ])
  refine wpAnyH_take (i := 13) rfl (by kernel_rfl) (by kernel_rfl) (by kernel_rfl) (fun _ _ _ h => h) (Or.inl ⟨by rfl, by intro w hSw; (try dsimp only at hSw); go_simp; (try with_reducible rfl)⟩) (by assumption) ?_; (try simp only [Act.put, List.setIfInBounds_toArray, List.set_cons_zero, List.set_cons_succ, List.getElem_toArray, List.getElem_cons_zero, List.getElem_cons_succ])
  refine wpAnyH_ready (rs := [14]) (by kernel_rfl) (by simp) ?_
  refine AllReadyH.cons rfl (fun K hK => ?_) AllReadyH.nil
  go_simp
  refine (at12 10 _).mono ?_
  rintro e u0 ⟨rfl, hg0⟩
  have HU0 := Lib.hid hg0
  refine hK.out _ _ hg0 (fun _ => wpAnyH_turn hg0 (fun hHeld => ?_))
  clear hK K
  try dsimp only at hHeld
  have F34' := Rule.turn F34 hg0
  have F35' := Rule.turn F35 hg0
  have F54' := Rule.turn F54 hg0
  have F55' := Rule.turn F55 hg0
  have F74' := Rule.turn F74 hg0
  have F75' := Rule.turn F75 hg0
  clear F31 F32 F34 F35 F54 F55 F74 F75 hg0
  refine wpAnyH_take (i := 15) rfl (by kernel_rfl) (by kernel_rfl) (by kernel_rfl) (fun _ _ _ h => h) (Or.inl ⟨by rfl, by intro w hSw; (try dsimp only at hSw); go_simp; (try with_reducible rfl)⟩) (by assumption) ?_; (try simp only [Act.put, List.setIfInBounds_toArray, List.set_cons_zero, List.set_cons_succ, List.getElem_toArray, List.getElem_cons_zero, List.getElem_cons_succ])
  refine wpAnyH_take (i := 16) rfl (by kernel_rfl) (by kernel_rfl) (by kernel_rfl) (fun _ _ _ h => h) (Or.inl ⟨by rfl, by intro w hSw; (try dsimp only at hSw); go_simp; (try with_reducible rfl)⟩) (by assumption) ?_; (try simp only [Act.put, List.setIfInBounds_toArray, List.set_cons_zero, List.set_cons_succ, List.getElem_toArray, List.getElem_cons_zero, List.getElem_cons_succ])
  refine wpAnyH_take (i := 17) rfl (by kernel_rfl) (by kernel_rfl) (by kernel_rfl) (fun _ _ _ h => h) (Or.inl ⟨by rfl, by intro w hSw; (try dsimp only at hSw); go_simp; (try with_reducible rfl)⟩) (by assumption) ?_; (try simp only [Act.put, List.setIfInBounds_toArray, List.set_cons_zero, List.set_cons_succ, List.getElem_toArray, List.getElem_cons_zero, List.getElem_cons_succ])
  refine wpAnyH_take (i := 18) rfl (by kernel_rfl) (by kernel_rfl) (by kernel_rfl) (fun _ _ _ h => h) (Or.inl ⟨by rfl, by intro w hSw; (try dsimp only at hSw); go_simp; (try with_reducible rfl)⟩) (by assumption) ?_; (try simp only [Act.put, List.setIfInBounds_toArray, List.set_cons_zero, List.set_cons_succ, List.getElem_toArray, List.getElem_cons_zero, List.getElem_cons_succ])
  refine wpAnyH_take (i := 19) rfl (by kernel_rfl) (by kernel_rfl) (by kernel_rfl) (fun _ _ _ h => h) (Or.inl ⟨by rfl, by intro w hSw; (try dsimp only at hSw); go_simp; (try with_reducible rfl)⟩) (by assumption) ?_; (try simp only [Act.put, List.setIfInBounds_toArray, List.set_cons_zero, List.set_cons_succ, List.getElem_toArray, List.getElem_cons_zero, List.getElem_cons_succ])
  refine wpAnyH_take (i := 20) rfl (by kernel_rfl) (by kernel_rfl) (by kernel_rfl) (fun _ _ _ h => h) (Or.inl ⟨by rfl, by intro w hSw; (try dsimp only at hSw); go_simp; (try with_reducible rfl)⟩) (by assumption) ?_; (try simp only [Act.put, List.setIfInBounds_toArray, List.set_cons_zero, List.set_cons_succ, List.getElem_toArray, List.getElem_cons_zero, List.getElem_cons_succ])
  refine wpAnyH_take (i := 21) rfl (by kernel_rfl) (by kernel_rfl) (by kernel_rfl) (fun _ _ _ h => h) (Or.inl ⟨by rfl, by intro w hSw; (try dsimp only at hSw); go_simp; (try with_reducible rfl)⟩) (by assumption) ?_; (try simp only [Act.put, List.setIfInBounds_toArray, List.set_cons_zero, List.set_cons_succ, List.getElem_toArray, List.getElem_cons_zero, List.getElem_cons_succ])
  refine wpAnyH_take (i := 22) rfl (by kernel_rfl) (by kernel_rfl) (by kernel_rfl) (fun _ _ _ h => h) (Or.inl ⟨by rfl, by intro w hSw; (try dsimp only at hSw); go_simp; (try with_reducible rfl)⟩) (by assumption) ?_; (try simp only [Act.put, List.setIfInBounds_toArray, List.set_cons_zero, List.set_cons_succ, List.getElem_toArray, List.getElem_cons_zero, List.getElem_cons_succ])
  refine wpAnyH_take (i := 23) rfl (by kernel_rfl) (by kernel_rfl) (by kernel_rfl) (fun _ _ _ h => h) (Or.inl ⟨by rfl, by intro w hSw; (try dsimp only at hSw); go_simp; (try with_reducible rfl)⟩) (by assumption) ?_; (try simp only [Act.put, List.setIfInBounds_toArray, List.set_cons_zero, List.set_cons_succ, List.getElem_toArray, List.getElem_cons_zero, List.getElem_cons_succ])
  refine wpAnyH_ready (rs := [24]) (by kernel_rfl) (by simp) ?_
  refine AllReadyH.cons rfl (fun K hK => ?_) AllReadyH.nil
  go_simp
  refine (at12 20 _).mono ?_
  rintro e u1 ⟨rfl, hg1⟩
  have HU1 := Lib.hid hg1
  refine hK.out _ _ hg1 (fun _ => wpAnyH_turn hg1 (fun hHeld => ?_))
  clear hK K
  try dsimp only at hHeld
  have F34'' := Rule.turn F34' hg1
  have F35'' := Rule.turn F35' hg1
  have F54'' := Rule.turn F54' hg1
  have F55'' := Rule.turn F55' hg1
  have F74'' := Rule.turn F74' hg1
  have F75'' := Rule.turn F75' hg1
  clear F34' F35' F54' F55' F74' F75' hg1
  refine wpAnyH_take (i := 25) rfl (by kernel_rfl) (by kernel_rfl) (by kernel_rfl) (fun _ _ _ h => h) (Or.inl ⟨by rfl, by intro w hSw; (try dsimp only at hSw); go_simp; (try with_reducible rfl)⟩) (by assumption) ?_; (try simp only [Act.put, List.setIfInBounds_toArray, List.set_cons_zero, List.set_cons_succ, List.getElem_toArray, List.getElem_cons_zero, List.getElem_cons_succ])
  refine wpAnyH_take (i := 26) rfl (by kernel_rfl) (by kernel_rfl) (by kernel_rfl) (fun _ _ _ h => h) (Or.inl ⟨by rfl, by intro w hSw; (try dsimp only at hSw); go_simp; (try with_reducible rfl)⟩) (by assumption) ?_; (try simp only [Act.put, List.setIfInBounds_toArray, List.set_cons_zero, List.set_cons_succ, List.getElem_toArray, List.getElem_cons_zero, List.getElem_cons_succ])
  refine wpAnyH_take (i := 27) rfl (by kernel_rfl) (by kernel_rfl) (by kernel_rfl) (fun _ _ _ h => h) (Or.inl ⟨by rfl, by intro w hSw; (try dsimp only at hSw); go_simp; (try with_reducible rfl)⟩) (by assumption) ?_; (try simp only [Act.put, List.setIfInBounds_toArray, List.set_cons_zero, List.set_cons_succ, List.getElem_toArray, List.getElem_cons_zero, List.getElem_cons_succ])
  refine wpAnyH_take (i := 28) rfl (by kernel_rfl) (by kernel_rfl) (by kernel_rfl) (fun _ _ _ h => h) (Or.inl ⟨by rfl, by intro w hSw; (try dsimp only at hSw); go_simp; (try with_reducible rfl)⟩) (by assumption) ?_; (try simp only [Act.put, List.setIfInBounds_toArray, List.set_cons_zero, List.set_cons_succ, List.getElem_toArray, List.getElem_cons_zero, List.getElem_cons_succ])
  refine wpAnyH_take (i := 29) rfl (by kernel_rfl) (by kernel_rfl) (by kernel_rfl) (fun _ _ _ h => h) (Or.inl ⟨by rfl, by intro w hSw; (try dsimp only at hSw); go_simp; (try with_reducible rfl)⟩) (by assumption) ?_; (try simp only [Act.put, List.setIfInBounds_toArray, List.set_cons_zero, List.set_cons_succ, List.getElem_toArray, List.getElem_cons_zero, List.getElem_cons_succ])
  refine wpAnyH_take (i := 30) rfl (by kernel_rfl) (by kernel_rfl) (by kernel_rfl) (fun _ _ _ h => h) (Or.inl ⟨by rfl, by intro w hSw; (try dsimp only at hSw); go_simp; (try with_reducible rfl)⟩) (by assumption) ?_; (try simp only [Act.put, List.setIfInBounds_toArray, List.set_cons_zero, List.set_cons_succ, List.getElem_toArray, List.getElem_cons_zero, List.getElem_cons_succ])
  refine wpAnyH_take (i := 31) rfl (by kernel_rfl) (by kernel_rfl) (by kernel_rfl) (fun _ _ _ h => h) (Or.inl ⟨by rfl, by intro w hSw; (try dsimp only at hSw); go_simp; (try with_reducible rfl)⟩) (by assumption) ?_; (try simp only [Act.put, List.setIfInBounds_toArray, List.set_cons_zero, List.set_cons_succ, List.getElem_toArray, List.getElem_cons_zero, List.getElem_cons_succ])
  refine wpAnyH_take (i := 32) rfl (by kernel_rfl) (by kernel_rfl) (by kernel_rfl) (fun _ _ _ h => h) (Or.inl ⟨by rfl, by intro w hSw; (try dsimp only at hSw); go_simp; (try with_reducible rfl)⟩) (by assumption) ?_; (try simp only [Act.put, List.setIfInBounds_toArray, List.set_cons_zero, List.set_cons_succ, List.getElem_toArray, List.getElem_cons_zero, List.getElem_cons_succ])
  refine wpAnyH_take (i := 33) rfl (by kernel_rfl) (by kernel_rfl) (by kernel_rfl) (fun _ _ _ h => h) (Or.inl ⟨by rfl, by intro w hSw; (try dsimp only at hSw); go_simp; (try with_reducible rfl)⟩) (by assumption) ?_; (try simp only [Act.put, List.setIfInBounds_toArray, List.set_cons_zero, List.set_cons_succ, List.getElem_toArray, List.getElem_cons_zero, List.getElem_cons_succ])
  refine wpAnyH_ready (rs := [34]) (by kernel_rfl) (by simp) ?_
  refine AllReadyH.cons rfl (fun K hK => ?_) AllReadyH.nil
  go_simp
  refine (at12 10 _).mono ?_
  rintro e u2 ⟨rfl, hg2⟩
  have HU2 := Lib.hid hg2
  refine hK.out _ _ hg2 (fun _ => wpAnyH_turn hg2 (fun hHeld => ?_))
  clear hK K
  try dsimp only at hHeld
  have F34''' := Rule.turn F34'' hg2
  have F35''' := Rule.turn F35'' hg2
  have F54''' := Rule.turn F54'' hg2
  have F55''' := Rule.turn F55'' hg2
  have F74''' := Rule.turn F74'' hg2
  have F75''' := Rule.turn F75'' hg2
  clear F34'' F35'' F54'' F55'' F74'' F75'' hg2
  refine wpAnyH_take (i := 35) rfl (by kernel_rfl) (by kernel_rfl) (by kernel_rfl) (fun _ _ _ h => h) (Or.inl ⟨by rfl, by intro w hSw; (try dsimp only at hSw); go_simp; (try with_reducible rfl)⟩) (by assumption) ?_; (try simp only [Act.put, List.setIfInBounds_toArray, List.set_cons_zero, List.set_cons_succ, List.getElem_toArray, List.getElem_cons_zero, List.getElem_cons_succ])
  refine wpAnyH_take (i := 36) rfl (by kernel_rfl) (by kernel_rfl) (by kernel_rfl) (fun _ _ _ h => h) (Or.inl ⟨by rfl, by intro w hSw; (try dsimp only at hSw); go_simp; (try with_reducible rfl)⟩) (by assumption) ?_; (try simp only [Act.put, List.setIfInBounds_toArray, List.set_cons_zero, List.set_cons_succ, List.getElem_toArray, List.getElem_cons_zero, List.getElem_cons_succ])
  refine wpAnyH_take (i := 37) rfl (by kernel_rfl) (by kernel_rfl) (by kernel_rfl) (fun _ _ _ h => h) (Or.inl ⟨by rfl, by intro w hSw; (try dsimp only at hSw); go_simp; (try with_reducible rfl)⟩) (by assumption) ?_; (try simp only [Act.put, List.setIfInBounds_toArray, List.set_cons_zero, List.set_cons_succ, List.getElem_toArray, List.getElem_cons_zero, List.getElem_cons_succ])
  refine wpAnyH_done (by kernel_rfl) ?_ _
  clear hHeld F34''' F35''' F54''' F55''' F74''' F75'''
  have HUU : Hid (Gr WX u2) := Lib.hid ((((Gr.refl WX).drew.trans HU0.out).trans HU1.out).trans HU2.out)
  have E6 : u2.cell? ⟨b11, 6, none⟩ = some (.int .i64 9) := cell_of (HUU.out.blk HF11.out) rfl
  have E1 : u2.cell? ⟨b15, 1, none⟩ = some (.string ⟨#[120]⟩) := cell_of (HUU.out.blk HF15.out) rfl
  have E2 : u2.cell? ⟨b19, 2, none⟩ = some (.bool false) := cell_of (HUU.out.blk HF19.out) rfl
  have E3 : u2.cell? ⟨b19, 3, none⟩ = some (.bool true) := cell_of (HUU.out.blk HF19.out) rfl
  go_wp2
  go_ret
  exact ⟨rfl, HG.out.trans HUU.out⟩
end Go.Proofs.YthgecojbggoniaaGreatDoor
