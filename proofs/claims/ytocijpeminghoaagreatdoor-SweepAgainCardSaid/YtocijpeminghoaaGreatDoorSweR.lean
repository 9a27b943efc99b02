/- Layer 15's read: what stands under a key below a stamp. -/
import Derived.Test.YtocijpeminghoaaGreatDoorSweP
import Derived.Test.YtocijpeminghoaaGreatDoorSweB
import Derived.LaidEqlPtr
namespace Go.Proofs.YtocijpeminghoaaGreatDoor
open Go.RowKit Go.Shelf
set_option maxRecDepth 100000
set_option linter.unusedVariables false
set_option linter.unusedSimpArgs false
set_option linter.unnecessarySimpa false
attribute [local go_sem] Oper.semAt_some

structure RdS (tb b4 b5 b6 b7 c1 c2 c3 : Nat) (key : ByteArray) (a b : Int) (w0 : World) (pr : List RwB) (W : World) : Prop where
  g : Gr w0 W
  s4 : W.heap[b4]? = some (.cells #[.string key] 9)
  s5 : W.heap[b5]? = some (.cells #[.int .i64 a, .int .i64 b] 24)
  s6 : W.heap[b6]? = some (.cells #[.string ⟨#[]⟩] 9)
  s7 : W.heap[b7]? = some (.cells #[.bool false] 4)
  t1 : W.heap[c1]? = some (.cells #[.pointer (some ⟨tb, 0, none⟩)] 27)
  t2 : W.heap[c2]? = some (.cells #[.string vK] 9)
  t3 : W.heap[c3]? = some (.cells #[.string wK] 9)
  no : (pr.map (·.1)).find? (rdP key a b) = none
structure RdX (b6 b7 : Nat) (key : ByteArray) (a b : Int) (w0 : World) (c : Code) (pr : List RwB) (W : World) : Prop where
  c : c = .ret
  g : Gr w0 W
  ex : ∃ x, (pr.map (·.1)).find? (rdP key a b) = some x ∧ W.heap[b6]? = some (.cells #[.string (valR x).1] 9) ∧ W.heap[b7]? = some (.cells #[.bool (valR x).2] 4)
theorem RdS.own {tb b4 b5 b6 b7 c1 c2 c3 : Nat} {key : ByteArray} {a b : Int} {w0 : World} {B : Nat} (hB : w0.heap.size ≤ B) : OwnFrom B (RdS tb b4 b5 b6 b7 c1 c2 c3 key a b w0) := by
  intro pre W W' row h hg hr
  have hr2 : ∀ r, row = some r → ∃ o : Obj, W.heap[r]? = some o ∧ o.isCells = false := fun r e => (hr r e).2
  have hc := fun {b : Nat} {cs : Array Value} {t : TypeId} {fz : Nat × Nat} (hh : W.heap[b]? = some (.cells cs t fz)) => grown_cells hg hr2 hh
  exact ⟨h.g.grown hg (fun k e => Nat.le_trans hB (hr k e).1), hc h.s4, hc h.s5, hc h.s6, hc h.s7, hc h.t1, hc h.t2, hc h.t3, h.no⟩
theorem RdX.own {b6 b7 : Nat} {key : ByteArray} {a b : Int} {w0 : World} {B : Nat} (hB : w0.heap.size ≤ B) (c : Code) : OwnFrom B (RdX b6 b7 key a b w0 c) := by
  intro pre W W' row h hg hr
  have hr2 : ∀ r, row = some r → ∃ o : Obj, W.heap[r]? = some o ∧ o.isCells = false := fun r e => (hr r e).2
  have hc := fun {b : Nat} {cs : Array Value} {t : TypeId} {fz : Nat × Nat} (hh : W.heap[b]? = some (.cells cs t fz)) => grown_cells hg hr2 hh
  obtain ⟨x, h1, h2, h3⟩ := h.ex
  exact ⟨h.c, h.g.grown hg (fun k e => Nat.le_trans hB (hr k e).1), ⟨x, h1, hc h2, hc h3⟩⟩
theorem RdS.it {tb b4 b5 b6 b7 c1 c2 c3 : Nat} {key : ByteArray} {a b : Int} {w0 W : World} {pre : List RwB} {S : Nat → Prop} {R : List Rw} (h : RdS tb b4 b5 b6 b7 c1 c2 c3 key a b w0 pre W) (ht : TabAt tb S R w0) : ItAt tb c1 c2 c3 S R vK wK W := ⟨ht.gr h.g, h.t1, h.t2, h.t3⟩
theorem RdS.next {tb b4 b5 b6 b7 c1 c2 c3 : Nat} {key : ByteArray} {a b : Int} {w0 W W' : World} {pre : List RwB} {x : RwB} (h : RdS tb b4 b5 b6 b7 c1 c2 c3 key a b w0 pre W) (hg : Gr W W') (hs : rdP key a b x.1 = false) : RdS tb b4 b5 b6 b7 c1 c2 c3 key a b w0 (pre ++ [x]) W' :=
  ⟨h.g.trans hg, hg.blk h.s4, hg.blk h.s5, hg.blk h.s6, hg.blk h.s7, hg.blk h.t1, hg.blk h.t2, hg.blk h.t3, by rw [List.map_append, List.find?_append, h.no]; simp [hs]⟩
theorem RdS.hit {tb b4 b5 b6 b7 c1 c2 c3 : Nat} {key : ByteArray} {a b : Int} {w0 W W5 : World} {pre : List RwB} {x : RwB} (h : RdS tb b4 b5 b6 b7 c1 c2 c3 key a b w0 pre W) (hg : Gr W W5) (hs : rdP key a b x.1 = true) (h67 : b6 ≠ b7) (h6 : w0.heap.size ≤ b6) (h7 : w0.heap.size ≤ b7) :
    ∀ W6, W6 = (W5.setCell ⟨b6, 0, none⟩ (.string (valR x.1).1)).setCell ⟨b7, 0, none⟩ (.bool (valR x.1).2) → KeepsOthers W W6 ∧ RdX b6 b7 key a b w0 .ret (pre ++ [x]) W6 := by
  rintro W6 rfl
  have e6 := hg.blk h.s6
  have e7 := hg.blk h.s7
  refine ⟨⟨by simpa using hg.size, fun k o ho hc => heap_set_other (heap_set_other (hg.blk ho) _ _ (fun e => ?_)) _ _ (fun e => ?_)⟩, ⟨rfl, ((h.g.trans hg).setCell (p := ⟨b6, 0, none⟩) h6 _).setCell (p := ⟨b7, 0, none⟩) h7 _, x.1, ?_, ?_, ?_⟩⟩
  · simp only at e; rw [← e, h.s6] at ho; cases ho; cases hc
  · simp only at e; rw [← e, h.s7] at ho; cases ho; cases hc
  · rw [List.map_append, List.find?_append, h.no]
    simp [hs]
  · exact heap_set_other (heap_set e6 0 _) _ _ (fun e => h67 e.symm)
  · exact heap_set (heap_set_other e7 _ _ h67) 0 _
theorem results_cells {P : Program} {fn : Func} {p u : Tmp} {ty tu : TypeId} (h : fn.results = #[.cell p ty, .cell u tu]) (tmps : Array Value) (w : World) {b c : Nat} {x y : Value} (hp : tmps.getD p undef = .pointer (some ⟨b, 0, none⟩)) (hu : tmps.getD u undef = .pointer (some ⟨c, 0, none⟩))
    (hb : (loadVar ty ⟨b, 0, none⟩).run P w = .ok x w) (hc : (loadVar tu ⟨c, 0, none⟩).run P w = .ok y w) : (results fn tmps).run P w = .ok (.tuple #[x, y]) w := by
  have hp' : tmps[p]?.getD undef = .pointer (some ⟨b, 0, none⟩) := by simpa using hp
  have hu' : tmps[u]?.getD undef = .pointer (some ⟨c, 0, none⟩) := by simpa using hu
  simp [results, h, hp', hu', asAddr, hb, hc]
theorem eql_seq (w : World) (f : Fn) (p q : Array Value) : (binOp .eql 69 (.func f p q) .nilFunc).run Tryz.prog w = .ok (.bool false) w := by
  have h : ∀ d : Nat, (Op.equalIn (d + 1) 69 (.func f p q) .nilFunc).run Tryz.prog w = .ok false w := fun d => by
    simp [Op.equalIn, run_underlying Tryz.underlying69, go_sem]
  simp only [binOp]
  simp [Op.equal, Op.maxDepth, h 9999]
theorem prefix_find {α : Type} {p : α → Bool} {A B : List α} {x : α} (h : A <+: B) (hf : A.find? p = some x) : B.find? p = some x := by
  obtain ⟨C, rfl⟩ := h
  rw [List.find?_append, hf]
  rfl
set_option maxHeartbeats 8000000 in
theorem read15 {tb : Nat} {S : Nat → Prop} {R : List Rw} {w : World} (h : TabAt tb S R w) (hsz : ∀ x ∈ R, x.1.size < 140737488355328 ∧ x.2.size ≤ 140737488351232) (key : ByteArray) (a b : Int) :
    Calls Tryz.prog 10 #[.pointer (some ⟨tb, 0, none⟩), .string key, .agg #[.int .i64 a, .int .i64 b]] w fun e w' =>
      e = .returned (.tuple #[.string (rdL key a b (betweenR vK wK R)).1, .bool (rdL key a b (betweenR vK wK R)).2]) ∧ Gr w w' := by
  have HT := Lib.hid h
  have HSz := Lib.hid hsz
  clear h hsz
  refine (callsIn_wide (n := 3)).1 ?_
  refine callsIn_of_wp_marks Tryz.func10 rfl trivial ?_ rfl
  simp only [Tryz.ntmps10, List.size_toArray, List.length_cons, List.length_nil, Nat.reduceAdd, Nat.reduceSub, Array.replicate_succ, Array.replicate_zero, List.push_toArray, List.append_toArray, List.nil_append, List.cons_append]
  have HM : Hid True := Lib.hid trivial
  have heq := fun w f p q => eql_seq w f p q
  gi_wp2_with (first
    | (refine ⟨trivial, ?_⟩; gi_at_call 27; clear HM; refine (callsIn_wide.2 (all_tab tb vK wK _)).mono ?_; rintro e w1 ⟨rfl, a1, a2, a3, a4, hg1⟩; have HG1 := Lib.hid hg1; clear hg1 a1 a2 a3 a4)
    | (refine ⟨trivial, ?_⟩; gi_at_call 27; refine (callsIn_wide.2 (all_tab tb vK wK _)).mono ?_; rintro e w2 ⟨rfl, hc1, hc2, hc3, hcs, hg2⟩))
  clear heq
  have g1 := HG1.out
  have p4 : w1.heap[w.heap.size]? = some (.cells #[.string key] 9) := g1.blk (heap_alloc1 (heap_alloc1 (heap_alloc1 (heap_alloc_new _ _))))
  have p5 : w1.heap[w.heap.size + 1]? = some (.cells #[.int .i64 a, .int .i64 b] 24) := g1.blk (heap_alloc1 (heap_alloc1 (heap_newn (by simp))))
  have p6 : w1.heap[w.heap.size + 1 + 1]? = some (.cells #[.string ⟨#[]⟩] 9) := g1.blk (heap_alloc1 (heap_newn (by simp)))
  have p7 : w1.heap[w.heap.size + 1 + 1 + 1]? = some (.cells #[.bool false] 4) := g1.blk (heap_newn (by simp))
  have hgw : Gr w w1 := (((((Gr.refl w).alloc _).alloc _).alloc _).alloc _).trans g1
  have hI0 : RdS tb w.heap.size (w.heap.size + 1) (w.heap.size + 1 + 1) (w.heap.size + 1 + 1 + 1) w1.heap.size (w1.heap.size + 1) (w1.heap.size + 2) key a b w [] w2 :=
    ⟨hgw.trans hg2, hg2.blk p4, hg2.blk p5, hg2.blk p6, hg2.blk p7, hc1, hc2, hc3, rfl⟩
  have HI0 := Lib.hid hI0
  have HZ : Hid (w.heap.size ≤ w2.heap.size) := Lib.hid hI0.g.size
  have HZ7 : Hid (w.heap.size + 4 ≤ w2.heap.size) := Lib.hid (by have := (Array.getElem?_eq_some_iff.1 hI0.s7).1; omega)
  clear hc1 hc2 hc3 hcs hg2 g1 p4 p5 p6 p7 hgw hI0 HG1
  refine wpIn_rangeFunc_ownG rfl (by decide) (gf := 51) (lb := #[.pointer (some ⟨w1.heap.size, 0, none⟩), .pointer (some ⟨w1.heap.size + 1, 0, none⟩), .pointer (some ⟨w1.heap.size + 2, 0, none⟩)]) rfl trivial (enters_of Tryz.func51 (by kernel_rfl) rfl)
    (all_stops 2 (by decide) (fun W W' => ItAt tb w1.heap.size (w1.heap.size + 1) (w1.heap.size + 2) S R vK wK W → ItAt tb w1.heap.size (w1.heap.size + 1) (w1.heap.size + 2) S R vK wK W') (fun W W' h k => k h) HSz.out w2 (HI0.out.it HT.out))
    (fun h k x => k (h x)) (fun W l o o' _ ho hc hw hit => hit.grown (grownBy_putObj' W l o') (fun r e => by cases e; exact ⟨o, ho, hc⟩)) (Below.refl _ _) (fun _ => rfl)
    (RdS tb w.heap.size (w.heap.size + 1) (w.heap.size + 1 + 1) (w.heap.size + 1 + 1 + 1) w1.heap.size (w1.heap.size + 1) (w1.heap.size + 2) key a b w) (RdX (w.heap.size + 1 + 1) (w.heap.size + 1 + 1 + 1) key a b w) (RdS.own HZ.out) (fun c => RdX.own HZ.out c) HI0.out ?a1 ?assign ?body ?done ?stop
  case assign =>
    intro l x W K hK
    simp only [encR, List.zip_toArray, List.zip_cons_cons, List.zip_nil_left, List.zip_nil_right, ← Array.foldl_toList, List.foldl_cons, List.foldl_nil, List.setIfInBounds_toArray, List.set_cons_zero, List.set_cons_succ]
    gi_wp2
    exact hK
  case stop =>
    rintro D c pre W hD hSp hX hK
    obtain ⟨rfl, hg, x, hx, h6, h7⟩ := hX
    have hB : (betweenR vK wK R).find? (rdP key a b) = some x := prefix_find hSp hx
    have HRes : Hid (rdL key a b (betweenR vK wK R) = valR x) := Lib.hid (by unfold rdL; rw [hB])
    have hne6 : w.heap.size + 1 + 1 ≠ D := by have := HZ7.out; omega
    have hne7 : w.heap.size + 1 + 1 + 1 ≠ D := by have := HZ7.out; omega
    clear HI0 hSp hx hB
    gi_wp2
    refine ⟨by simp, .inl ⟨_, _, rfl, run_takeDeferred hK, ?_⟩⟩
    have q6 := (World.putObj_heap_other (o := .deferred none) hne6 (w := W)).trans h6
    have q7 := (World.putObj_heap_other (o := .deferred none) hne7 (w := W)).trans h7
    obtain ⟨u6, _, _⟩ := blk1 q6
    obtain ⟨u7, _, _⟩ := blk1 q7
    refine ⟨_, results_cells (x := .string (valR x).1) (y := .bool (valR x).2) rfl _ _ rfl rfl (by simp [loadVar, go_sem, u6]) (by simp [loadVar, go_sem, u7]), ?_, hg.grown (grownBy_putObj' W D _) (fun k e => by cases e; exact Nat.le_trans HZ.out hD)⟩
    rw [HRes.out]
  case done =>
    rintro D ys W hD hys hI hK
    have HRes : Hid (rdL key a b (betweenR vK wK R) = (⟨#[]⟩, false)) := Lib.hid (by unfold rdL; rw [← hys, hI.no])
    have hg := hI.g
    obtain ⟨k_0, g_0, l_0⟩ := blk1 hI.s6
    obtain ⟨k_1, g_1, l_1⟩ := blk1 hI.s7
    have h6 := hI.s6
    have h7 := hI.s7
    have hne6 : w.heap.size + 1 + 1 ≠ D := by have := HZ7.out; omega
    have hne7 : w.heap.size + 1 + 1 + 1 ≠ D := by have := HZ7.out; omega
    have hd6 : (⟨w.heap.size + 1 + 1, 0, none⟩ : Addr).block ≠ D := hne6
    clear hI HI0
    gi_wp2
    have r6 : ((W.setCell ⟨w.heap.size + 1 + 1, 0, none⟩ (.string ⟨#[]⟩)).setCell ⟨w.heap.size + 1 + 1 + 1, 0, none⟩ (.bool false)).heap[w.heap.size + 1 + 1]? = some (.cells #[.string ⟨#[]⟩] 9) := heap_set_other (heap_set h6 0 _) _ _ (by simp)
    have r7 : ((W.setCell ⟨w.heap.size + 1 + 1, 0, none⟩ (.string ⟨#[]⟩)).setCell ⟨w.heap.size + 1 + 1 + 1, 0, none⟩ (.bool false)).heap[w.heap.size + 1 + 1 + 1]? = some (.cells #[.bool false] 4) := heap_set (heap_set_other h7 _ _ (by simp)) 0 _
    have rD : ((W.setCell ⟨w.heap.size + 1 + 1, 0, none⟩ (.string ⟨#[]⟩)).setCell ⟨w.heap.size + 1 + 1 + 1, 0, none⟩ (.bool false)).heap[D]? = some (.deferred (some [])) := heap_set_other (heap_set_other hK _ _ hne6) _ _ hne7
    have q6 := (World.putObj_heap_other (o := .deferred none) hne6 (w := ((W.setCell ⟨w.heap.size + 1 + 1, 0, none⟩ (.string ⟨#[]⟩)).setCell ⟨w.heap.size + 1 + 1 + 1, 0, none⟩ (.bool false)))).trans r6
    have q7 := (World.putObj_heap_other (o := .deferred none) hne7 (w := ((W.setCell ⟨w.heap.size + 1 + 1, 0, none⟩ (.string ⟨#[]⟩)).setCell ⟨w.heap.size + 1 + 1 + 1, 0, none⟩ (.bool false)))).trans r7
    obtain ⟨u6, _, _⟩ := blk1 q6
    obtain ⟨u7, _, _⟩ := blk1 q7
    refine ⟨by simp, .inl ⟨_, _, rfl, run_takeDeferred rD, ?_⟩⟩
    refine ⟨_, results_cells (x := .string ⟨#[]⟩) (y := .bool false) rfl _ _ rfl rfl (by simp [loadVar, go_sem, u6]) (by simp [loadVar, go_sem, u7]), ?_, ((hg.setCell (p := ⟨w.heap.size + 1 + 1, 0, none⟩) (by simp; omega) _).setCell (p := ⟨w.heap.size + 1 + 1 + 1, 0, none⟩) (by simp; omega) _).grown (grownBy_putObj' _ D _) (fun k e => by cases e; exact Nat.le_trans HZ.out hD)⟩
    rw [HRes.out]
  case body =>
    rintro l pre x W hI hlt2
    have HI := Lib.hid hI
    have HRV := Lib.hid (fun w => readVersion_any x.1.1 (by have := x.2.1; omega) w)
    have HTV := Lib.hid (fun w => takeVersion_any x.1.2 x.2.2 w)
    have HP : Hid (rdP key a b x.1 = (((readVersionR x.1.1.data.toList).2.2.2 == 0) && (((takeVerR x.1.2.data.toList).2.2 == 0) && (((readVersionR x.1.1.data.toList).1 == key.toList) && lessS (readVersionR x.1.1.data.toList).2.1 (readVersionR x.1.1.data.toList).2.2.1 a b)))) := Lib.hid rfl
    have HV : Hid (valR x.1 = (⟨(takeVerR x.1.2.data.toList).1.toArray⟩, (takeVerR x.1.2.data.toList).2.1)) := Lib.hid rfl
    generalize readVersionR x.1.1.data.toList = r at *
    generalize takeVerR x.1.2.data.toList = u at *
    obtain ⟨rk, ra, rb, re⟩ := r
    obtain ⟨uv, ub, ue⟩ := u
    simp only at HRV HTV HP HV
    obtain ⟨i_0, if_0, il_0⟩ := blk1 hI.s6
    obtain ⟨o_0, of_0, ol_0⟩ := blk1 hI.s7
    obtain ⟨j_0, jf_0, jl_0⟩ := blk1 hI.s4
    obtain ⟨m_0, m_1, mf_0, mf_1, ml_0⟩ := blk2 hI.s5
    have hrk : (⟨rk.toArray⟩ : ByteArray).toList = rk := by rw [ByteArray.toList_eq]
    clear HI0 hI
    have HLs := Lib.hid (fun w => less_any ra rb a b w)
    by_cases hre : re = 0
    · subst hre
      by_cases hue : ue = 0
      · subst hue
        cases k1 : (rk == key.toList) with
        | false =>
          have HNo : Hid (rdP key a b x.1 = false) := Lib.hid (by rw [HP.out, k1]; simp)
          gi_wp2_with (first
            | (refine ⟨trivial, ?_⟩; gi_at_call 13; refine (CallsIn.inRound l (callsIn_wide.2 (HRV.out _))).mono ?_; rintro e w3 ⟨rfl, hg3⟩)
            | (refine ⟨trivial, ?_⟩; gi_at_call 14; refine (CallsIn.inRound l (callsIn_wide.2 (HTV.out _))).mono ?_; rintro e w4 ⟨rfl, hg4⟩; have hgW := hg3.trans (((Gr.refl w3).alloc (.cells #[.int .i64 ra, .int .i64 rb] 24)).trans hg4); have j_2 := hgW.cell' j_0; have m_2 := hgW.cell' m_0; have m_3 := hgW.cell' m_1; obtain ⟨n_0, n_1, nf_0, nf_1, nl_0⟩ := blk2 (hg4.blk (heap_alloc_new w3 (.cells #[.int .i64 ra, .int .i64 rb] 24))))
            | (refine ⟨trivial, ?_⟩; gi_at_call 9; refine (CallsIn.inRound l (callsIn_wide.2 (HLs.out _))).mono ?_; rintro e w5 ⟨rfl, hg5⟩; obtain ⟨k6_0, k6_1, k6_2⟩ := blk1 ((hgW.trans hg5).blk HI.out.s6); obtain ⟨k7_0, k7_1, k7_2⟩ := blk1 ((hgW.trans hg5).blk HI.out.s7)))
          refine ⟨trivial, ?_⟩
          gi_wp2
          exact ⟨keeps_gr hgW, fun hit => hit.gr hgW, HI.out.next hgW HNo.out⟩
        | true =>
          cases k2 : lessS ra rb a b with
          | false =>
            rw [k2] at HLs
            have HNo : Hid (rdP key a b x.1 = false) := Lib.hid (by rw [HP.out, k2]; simp)
            clear k2
            gi_wp2_with (first
              | (refine ⟨trivial, ?_⟩; gi_at_call 13; refine (CallsIn.inRound l (callsIn_wide.2 (HRV.out _))).mono ?_; rintro e w3 ⟨rfl, hg3⟩)
              | (refine ⟨trivial, ?_⟩; gi_at_call 14; refine (CallsIn.inRound l (callsIn_wide.2 (HTV.out _))).mono ?_; rintro e w4 ⟨rfl, hg4⟩; have hgW := hg3.trans (((Gr.refl w3).alloc (.cells #[.int .i64 ra, .int .i64 rb] 24)).trans hg4); have j_2 := hgW.cell' j_0; have m_2 := hgW.cell' m_0; have m_3 := hgW.cell' m_1; obtain ⟨n_0, n_1, nf_0, nf_1, nl_0⟩ := blk2 (hg4.blk (heap_alloc_new w3 (.cells #[.int .i64 ra, .int .i64 rb] 24))))
              | (refine ⟨trivial, ?_⟩; gi_at_call 9; refine (CallsIn.inRound l (callsIn_wide.2 (HLs.out _))).mono ?_; rintro e w5 ⟨rfl, hg5⟩; obtain ⟨k6_0, k6_1, k6_2⟩ := blk1 ((hgW.trans hg5).blk HI.out.s6); obtain ⟨k7_0, k7_1, k7_2⟩ := blk1 ((hgW.trans hg5).blk HI.out.s7)))
            exact ⟨keeps_gr (hgW.trans hg5), fun hit => hit.gr (hgW.trans hg5), HI.out.next (hgW.trans hg5) HNo.out⟩
          | true =>
            rw [k2] at HLs
            have HYes : Hid (rdP key a b x.1 = true) := Lib.hid (by rw [HP.out, k1, k2]; rfl)
            clear k2
            gi_wp2_with (first
              | (refine ⟨trivial, ?_⟩; gi_at_call 13; refine (CallsIn.inRound l (callsIn_wide.2 (HRV.out _))).mono ?_; rintro e w3 ⟨rfl, hg3⟩)
              | (refine ⟨trivial, ?_⟩; gi_at_call 14; refine (CallsIn.inRound l (callsIn_wide.2 (HTV.out _))).mono ?_; rintro e w4 ⟨rfl, hg4⟩; have hgW := hg3.trans (((Gr.refl w3).alloc (.cells #[.int .i64 ra, .int .i64 rb] 24)).trans hg4); have j_2 := hgW.cell' j_0; have m_2 := hgW.cell' m_0; have m_3 := hgW.cell' m_1; obtain ⟨n_0, n_1, nf_0, nf_1, nl_0⟩ := blk2 (hg4.blk (heap_alloc_new w3 (.cells #[.int .i64 ra, .int .i64 rb] 24))))
              | (refine ⟨trivial, ?_⟩; gi_at_call 9; refine (CallsIn.inRound l (callsIn_wide.2 (HLs.out _))).mono ?_; rintro e w5 ⟨rfl, hg5⟩; obtain ⟨k6_0, k6_1, k6_2⟩ := blk1 ((hgW.trans hg5).blk HI.out.s6); obtain ⟨k7_0, k7_1, k7_2⟩ := blk1 ((hgW.trans hg5).blk HI.out.s7)))
            obtain ⟨x1, x2⟩ := HI.out.hit (hgW.trans hg5) HYes.out (by omega) (by omega) (by omega) _ rfl
            rw [HV.out] at x1 x2
            exact ⟨x1.from _, x2⟩
      · have hz : (ue == 0) = false := by simpa using hue
        have HNo : Hid (rdP key a b x.1 = false) := Lib.hid (by rw [HP.out, hz]; simp)
        gi_wp2_with (first
          | (refine ⟨trivial, ?_⟩; gi_at_call 13; refine (CallsIn.inRound l (callsIn_wide.2 (HRV.out _))).mono ?_; rintro e w3 ⟨rfl, hg3⟩)
          | (refine ⟨trivial, ?_⟩; gi_at_call 14; refine (CallsIn.inRound l (callsIn_wide.2 (HTV.out _))).mono ?_; rintro e w4 ⟨rfl, hg4⟩; have hgW := hg3.trans (((Gr.refl w3).alloc (.cells #[.int .i64 ra, .int .i64 rb] 24)).trans hg4); have j_2 := hgW.cell' j_0; have m_2 := hgW.cell' m_0; have m_3 := hgW.cell' m_1; obtain ⟨n_0, n_1, nf_0, nf_1, nl_0⟩ := blk2 (hg4.blk (heap_alloc_new w3 (.cells #[.int .i64 ra, .int .i64 rb] 24))))
          | (refine ⟨trivial, ?_⟩; gi_at_call 9; refine (CallsIn.inRound l (callsIn_wide.2 (HLs.out _))).mono ?_; rintro e w5 ⟨rfl, hg5⟩; obtain ⟨k6_0, k6_1, k6_2⟩ := blk1 ((hgW.trans hg5).blk HI.out.s6); obtain ⟨k7_0, k7_1, k7_2⟩ := blk1 ((hgW.trans hg5).blk HI.out.s7)))
        refine ⟨trivial, ?_⟩
        gi_wp2
        exact ⟨keeps_gr hgW, fun hit => hit.gr hgW, HI.out.next hgW HNo.out⟩
    · have hz : (re == 0) = false := by simpa using hre
      have HNo : Hid (rdP key a b x.1 = false) := Lib.hid (by rw [HP.out, hz]; simp)
      gi_wp2_with (first
        | (refine ⟨trivial, ?_⟩; gi_at_call 13; refine (CallsIn.inRound l (callsIn_wide.2 (HRV.out _))).mono ?_; rintro e w3 ⟨rfl, hg3⟩)
        | (refine ⟨trivial, ?_⟩; gi_at_call 14; refine (CallsIn.inRound l (callsIn_wide.2 (HTV.out _))).mono ?_; rintro e w4 ⟨rfl, hg4⟩; have hgW := hg3.trans (((Gr.refl w3).alloc (.cells #[.int .i64 ra, .int .i64 rb] 24)).trans hg4); have j_2 := hgW.cell' j_0; have m_2 := hgW.cell' m_0; have m_3 := hgW.cell' m_1; obtain ⟨n_0, n_1, nf_0, nf_1, nl_0⟩ := blk2 (hg4.blk (heap_alloc_new w3 (.cells #[.int .i64 ra, .int .i64 rb] 24))))
        | (refine ⟨trivial, ?_⟩; gi_at_call 9; refine (CallsIn.inRound l (callsIn_wide.2 (HLs.out _))).mono ?_; rintro e w5 ⟨rfl, hg5⟩; obtain ⟨k6_0, k6_1, k6_2⟩ := blk1 ((hgW.trans hg5).blk HI.out.s6); obtain ⟨k7_0, k7_1, k7_2⟩ := blk1 ((hgW.trans hg5).blk HI.out.s7)))
      refine ⟨trivial, ?_⟩
      gi_wp2
      exact ⟨keeps_gr hgW, fun hit => hit.gr hgW, HI.out.next hgW HNo.out⟩
end Go.Proofs.YtocijpeminghoaaGreatDoor
