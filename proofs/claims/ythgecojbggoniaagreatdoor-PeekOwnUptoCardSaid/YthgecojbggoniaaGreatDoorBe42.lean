/- What the rows stand on, part 42: PekD. Printed by bundle.py out of my texts. -/
import Derived.Test.YthgecojbggoniaaGreatDoorBe29
import Derived.Test.YthgecojbggoniaaGreatDoorBe40
import Derived.Stop.RegionWithIn
namespace Go.Proofs.YthgecojbggoniaaGreatDoor
open Go.RowKit Go.Shelf
set_option maxRecDepth 100000
set_option linter.unusedVariables false
set_option linter.unusedSimpArgs false
set_option linter.unnecessarySimpa false
attribute [local go_sem] Oper.semAt_some

theorem wpListIn_store_row {F : Fence} {n : Nat} {P : Program} {ops : Array Oper} {rest : List Oper} {o : Oper} {a : Act} {w : World} {Q : Exit → Act → World → Prop} (hgd : o.guard = none) (ty : TypeId) (x y : Operand) (ho : o.op = .store ty x y)
    (g : Nat) (cells : Array Value) (hx : a.eval x = .pointer (some ⟨g, 0, none⟩)) (hy : a.eval y = .agg cells)
    (t : TypeId) (old : Array Value) (hg : w.heap[g]? = some (.cells old t (0, 0))) (hi : (P.info? ty).map (·.size) = some cells.size)
    (hold : old.size = cells.size) (h1 : cells.all (·.oneCell') = true)
    (h : wpListIn F n P ops Q rest (a.put o.dst undef) (w.setRow g cells)) : wpListIn F n P ops Q (o :: rest) a w := by
  refine wpListIn_plain hgd fun K hK' => ?_
  unfold Oper.wpIn
  refine ⟨?_, ?_⟩
  · simp [Oper.about, ho]
  · rw [Oper.semAt_plain F _ _ (by rw [ho]; intro c hc'; cases hc')]
    unfold execOp
    simp only [ho, hx, hy, Instr.storeAt, Instr.sureAddr, Sem.run_bind, Sem.run_pure, Result.andThen_ok, run_storeVar_row w g t ty old cells hg hi hold h1]
    exact hK' _ _ h
theorem wpIn_calm {F : Fence} {n : Nat} {P : Program} {c : Code} {K : Act → World → Prop} {Q : Exit → Act → World → Prop} {a : Act} {w : World} (h : c.wpIn F n P (Exit.then K (fun _ _ _ => False)) a w) : c.wpIn F n P (Exit.then K Q) a w :=
  wpIn_mono h (fun e a w h => by cases e <;> first | exact h | exact h.elim)
theorem esc_len (l : List UInt8) : (esc l).length ≤ 2 * l.length := by
  induction l with
  | nil => simp [esc]
  | cons c r ih => unfold esc; split <;> simp <;> omega
structure VrS (tb b3 b4 b5 c1 c2 c3 : Nat) (key lo hi : ByteArray) (w0 : World) (pr : List RwB) (W : World) : Prop where
  g : Gr w0 W
  s3 : W.heap[b3]? = some (.cells #[.string key] 9)
  s4 : W.heap[b4]? = some (.cells (fndA fnd0 (.slice none 0 0)) 42)
  s5 : W.heap[b5]? = some (.cells #[.bool false] 4)
  t1 : W.heap[c1]? = some (.cells #[.pointer (some ⟨tb, 0, none⟩)] 31)
  t2 : W.heap[c2]? = some (.cells #[.string lo] 9)
  t3 : W.heap[c3]? = some (.cells #[.string hi] 9)
  no : (pr.map (·.1)).find? vOk = none
def verOne (key : ByteArray) (x : Rw) : Fnd := ⟨key, ⟨(takeVerR x.2.data.toList).1.toArray⟩, isV x, false, sa x, sb x, itt0⟩
structure VrX (b4 b5 : Nat) (key : ByteArray) (w0 : World) (c : Code) (pr : List RwB) (W : World) : Prop where
  c : c = .ret
  g : Gr w0 W
  ex : ∃ x, (pr.map (·.1)).find? vOk = some x ∧ W.heap[b4]? = some (.cells (fndA (verOne key x) (.slice none 0 0)) 42) ∧ W.heap[b5]? = some (.cells #[.bool true] 4)
theorem VrS.own {tb b3 b4 b5 c1 c2 c3 : Nat} {key lo hi : ByteArray} {w0 : World} {B : Nat} (hB : w0.heap.size ≤ B) : OwnFrom B (VrS tb b3 b4 b5 c1 c2 c3 key lo hi w0) := by
  intro pre W W' row h hg hr
  have hr2 : ∀ r, row = some r → ∃ o : Obj, W.heap[r]? = some o ∧ o.isCells = false := fun r e => (hr r e).2
  have hc := fun {b : Nat} {cs : Array Value} {t : TypeId} {fz : Nat × Nat} (hh : W.heap[b]? = some (.cells cs t fz)) => grown_cells hg hr2 hh
  exact ⟨h.g.grown hg (fun k e => Nat.le_trans hB (hr k e).1), hc h.s3, hc h.s4, hc h.s5, hc h.t1, hc h.t2, hc h.t3, h.no⟩
theorem VrX.own {b4 b5 : Nat} {key : ByteArray} {w0 : World} {B : Nat} (hB : w0.heap.size ≤ B) (c : Code) : OwnFrom B (VrX b4 b5 key w0 c) := by
  intro pre W W' row h hg hr
  have hr2 : ∀ r, row = some r → ∃ o : Obj, W.heap[r]? = some o ∧ o.isCells = false := fun r e => (hr r e).2
  have hc := fun {b : Nat} {cs : Array Value} {t : TypeId} {fz : Nat × Nat} (hh : W.heap[b]? = some (.cells cs t fz)) => grown_cells hg hr2 hh
  obtain ⟨x, h1, h2, h3⟩ := h.ex
  exact ⟨h.c, h.g.grown hg (fun k e => Nat.le_trans hB (hr k e).1), ⟨x, h1, hc h2, hc h3⟩⟩
theorem VrS.it {tb b3 b4 b5 c1 c2 c3 : Nat} {key lo hi : ByteArray} {w0 W : World} {pre : List RwB} {S : Nat → Prop} {R : List Rw} (h : VrS tb b3 b4 b5 c1 c2 c3 key lo hi w0 pre W) (ht : TabAt tb S R w0) : ItAt tb c1 c2 c3 S R lo hi W := ⟨ht.gr h.g, h.t1, h.t2, h.t3⟩
theorem VrS.next {tb b3 b4 b5 c1 c2 c3 : Nat} {key lo hi : ByteArray} {w0 W W' : World} {pre : List RwB} {x : RwB} (h : VrS tb b3 b4 b5 c1 c2 c3 key lo hi w0 pre W) (hg : Gr W W') (hs : vOk x.1 = false) : VrS tb b3 b4 b5 c1 c2 c3 key lo hi w0 (pre ++ [x]) W' :=
  ⟨h.g.trans hg, hg.blk h.s3, hg.blk h.s4, hg.blk h.s5, hg.blk h.t1, hg.blk h.t2, hg.blk h.t3, by rw [List.map_append, List.find?_append, h.no]; simp [hs]⟩
theorem VrS.hit {tb b3 b4 b5 c1 c2 c3 : Nat} {key lo hi : ByteArray} {w0 W W5 : World} {pre : List RwB} {x : RwB} (h : VrS tb b3 b4 b5 c1 c2 c3 key lo hi w0 pre W) (hg : Gr W W5) (hs : vOk x.1 = true) (h45 : b4 ≠ b5) (h4 : w0.heap.size ≤ b4) (h5 : w0.heap.size ≤ b5) :
    ∀ W6, W6 = (W5.setRow b4 (fndA (verOne key x.1) (.slice none 0 0))).setCell ⟨b5, 0, none⟩ (.bool true) → KeepsOthers W W6 ∧ VrX b4 b5 key w0 .ret (pre ++ [x]) W6 := by
  rintro W6 rfl
  have e4 := hg.blk h.s4
  have e5 := hg.blk h.s5
  have hk4 : ∀ (k : Nat) (o : Obj), k ≠ b4 → W5.heap[k]? = some o → (W5.setRow b4 (fndA (verOne key x.1) (.slice none 0 0))).heap[k]? = some o := fun k o hk ho => by
    rw [setRow_other _ _ _ _ hk]
    exact ho
  have hGr : Gr w0 (W5.setRow b4 (fndA (verOne key x.1) (.slice none 0 0))) := ⟨below_setRow (h.g.trans hg).b h4 _⟩
  refine ⟨⟨by simpa using hg.size, fun k o ho hc => ?_⟩, ⟨rfl, hGr.setCell (p := ⟨b5, 0, none⟩) h5 _, x.1, ?_, ?_, ?_⟩⟩
  · have n4 : k ≠ b4 := fun e => by rw [e, h.s4] at ho; cases ho; cases hc
    have n5 : b5 ≠ k := fun e => by rw [← e, h.s5] at ho; cases ho; cases hc
    exact heap_set_other (hk4 _ _ n4 (hg.blk ho)) _ _ n5
  · rw [List.map_append, List.find?_append, h.no]
    simp [hs]
  · exact heap_set_other (setRow_heap _ _ _ _ _ _ e4) _ _ (fun e => h45 e.symm)
  · exact heap_set (hk4 _ _ (fun e => h45 e.symm) e5) 0 _
theorem prefix_find {α : Type} {p : α → Bool} {A B : List α} {x : α} (h : A <+: B) (hf : A.find? p = some x) : B.find? p = some x := by
  obtain ⟨C, rfl⟩ := h
  rw [List.find?_append, hf]
  rfl
theorem results_row_cell {P : Program} {fn : Func} {p u : Tmp} {ty tu : TypeId} (h : fn.results = #[.cell p ty, .cell u tu]) (tmps : Array Value) (w : World) (g c : Nat) (t : TypeId) (cs : Array Value) (fr : Nat × Nat) (d : TypeDesc) {y : Value}
    (hp : tmps.getD p undef = .pointer (some ⟨g, 0, none⟩)) (hu' : tmps.getD u undef = .pointer (some ⟨c, 0, none⟩)) (hg : w.heap[g]? = some (.cells cs t fr))
    (hu : P.underlying ty = some d) (hd : (match d with | .struct _ | .array _ _ => true | _ => false) = true) (hi : (P.info? ty).map (·.size) = some cs.size)
    (hc : (loadVar tu ⟨c, 0, none⟩).run P w = .ok y w) : (results fn tmps).run P w = .ok (.tuple #[.agg cs, y]) w := by
  have hp' : tmps[p]?.getD undef = .pointer (some ⟨g, 0, none⟩) := by simpa using hp
  have hu2 : tmps[u]?.getD undef = .pointer (some ⟨c, 0, none⟩) := by simpa using hu'
  simp [results, h, hp', hu2, asAddr, run_loadVar_row w g t ty cs fr d hg hu hd hi, hc]
theorem fnd_one (f : Fnd) (q : Option Addr) (n c : Nat) : (fndA f (.slice q n c)).all (·.oneCell') = true := by
  unfold fndA
  simp [Value.oneCell']
set_option maxHeartbeats 8000000 in
theorem version12 {ta g : Nat} {S : Nat → Prop} {R : List Rw} {x : Tx} {w : World} (hw : Sh w) (h : TabAt ta S R w) (hg : w.heap[g]? = some (.cells (rdgC ta x) 123)) (hsz : ∀ x ∈ R, x.1.size < 140737488355328 ∧ x.2.size ≤ 140737488351232) (key : ByteArray) :
    Calls Tryz.prog 64 #[.pointer (some ⟨g, 0, none⟩), .string key] w fun e w' => e = .returned (.tuple #[.agg (fndA (verF R key (topS x).1 (topS x).2).1 (.slice none 0 0)), .bool (verF R key (topS x).1 (topS x).2).2]) ∧ Gr w w' := by
  have HSh := Lib.hid hw
  have HT := Lib.hid h
  have HB := Lib.hid hg
  have HSz := Lib.hid hsz
  clear h hg hsz hw
  obtain ⟨W0, hW0⟩ : ∃ W0, W0 = ((w.alloc (.cells #[.string key] 9)).alloc (.cells (fndA fnd0 (.slice none 0 0)) 42)).alloc (.cells #[.bool false] 4) := ⟨_, rfl⟩
  have HX0 : Hid (Gr w W0) := Lib.hid (by rw [hW0]; exact (((Gr.refl w).alloc _).alloc _).alloc _)
  have H3 : Hid (W0.heap[w.heap.size]? = some (.cells #[.string key] 9)) := Lib.hid (by rw [hW0]; exact ((Gr.refl _).alloc _).blk (((Gr.refl _).alloc _).blk (heap_alloc_new _ _)))
  have H4 : Hid (W0.heap[w.heap.size + 1]? = some (.cells (fndA fnd0 (.slice none 0 0)) 42)) := Lib.hid (by rw [hW0]; exact ((Gr.refl _).alloc _).blk (heap_newn (by simp)))
  have H5 : Hid (W0.heap[w.heap.size + 1 + 1]? = some (.cells #[.bool false] 4)) := Lib.hid (by rw [hW0]; exact heap_newn (by simp))
  have HW0 := Lib.hid hW0
  have hb1 := HX0.out.blk HB.out
  unfold rdgC at hb1
  obtain ⟨k_0, k_1, k_2, k_3, k_4, k_5, k_6, k_7, k_8, k_9, k_10, k_11, k_12, k_13, k_14, _, _, _, _, _, _, _, _, _, _, _, _, _, _, _, _⟩ := blk15 hb1
  obtain ⟨q_0, _, _⟩ := blk1 H3.out
  have HVK := Lib.hid (fun w hw => versionKey_any key (topS x).1 (topS x).2 w hw)
  have HVL := Lib.hid (fun w hw => versionKey_any key 0 0 w hw)
  have HVr : Hid (verRow R key (topS x).1 (topS x).2 = (betweenR (ofL (versionKeyR key.data.toList (topS x).1 (topS x).2).1) (ofL (versionKeyR key.data.toList 0 0).1 ++ nul) R).find? vOk) := Lib.hid rfl
  have HSl : Hid ((versionKeyR key.data.toList 0 0).1.length ≤ 3000) := Lib.hid (by
    unfold versionKeyR
    split
    · rename_i h1
      have h2 := esc_len key.data.toList
      have h3 := downL_length 0 0
      simp [keyL, h3]; simp at h1 h2; omega
    · simp)
  clear hb1 hW0
  generalize versionKeyR key.data.toList (topS x).1 (topS x).2 = v1 at *
  obtain ⟨v1l, v1e⟩ := v1
  generalize versionKeyR key.data.toList 0 0 = v2 at *
  obtain ⟨v2l, v2e⟩ := v2
  simp only at HVK HVL HVr HSl
  unfold ofL at HVr
  have HS2 : Hid ((⟨v2l.toArray⟩ : ByteArray).size ≤ 3000) := Lib.hid (by have := HSl.out; simpa [ByteArray.size] using this)
  generalize (⟨v1l.toArray⟩ : ByteArray) = s1 at *
  generalize (⟨v2l.toArray⟩ : ByteArray) = s2 at *
  clear HSl
  refine (callsIn_wide (n := 3)).1 ?_
  refine callsIn_of_wp_marks Tryz.func64 rfl trivial ?_ rfl
  simp only [Tryz.ntmps64, List.size_toArray, List.length_cons, List.length_nil, Nat.reduceAdd, Nat.reduceSub, Array.replicate_succ, Array.replicate_zero, List.push_toArray, List.append_toArray, List.nil_append, List.cons_append]
  gi_wp2_with fail
  unfold fndA fnd0 itt0 at HW0
  rw [← HW0.out]
  refine wpIn_calm ?_
  gi_region_with (refine ⟨trivial, ?_⟩; gi_at_call 90; go_loud (refine (callsIn_wide.2 (HVK.out _ ((HSh.out.gr HX0.out).drew))).mono ?_; rintro e w1 ⟨rfl, hg1⟩; have HX1 := Lib.hid ((Gr.refl W0).drew.trans hg1)))
  all_goals clear hg1 k_0 k_1 k_2 k_3 k_4 k_5 k_6 k_7 k_8 k_9 k_10 k_11 k_12 k_13 k_14 q_0
  · skip
    have hb1 := HX1.out.blk (HX0.out.blk HB.out)
    unfold rdgC at hb1
    obtain ⟨k_0, _⟩ := blk15 hb1
    obtain ⟨q_0, _, _⟩ := blk1 (HX1.out.blk H3.out)
    have HSt := Lib.hid ((Gr.refl W0).trans HX1.out)
    clear hb1
    gi_wp2_with (first
      | (refine ⟨trivial, ?_⟩; gi_at_call 90; refine (callsIn_wide.2 (HVL.out _ (HSh.out.gr (HX0.out.trans HX1.out)))).mono ?_; rintro e w2 ⟨rfl, hg2⟩; have k_1 := hg2.cell' k_0; have hcat : ¬ 140737488355328 < s2.size + 1 := (by have := HS2.out; omega))
      | (refine ⟨trivial, ?_⟩; gi_at_call 45; go_loud (refine (callsIn_wide.2 (all_tab ta s1 (s2 ++ nul) _)).mono ?_; rintro e w3 ⟨rfl, hc1, hc2, hc3, hcs, hg3⟩)))
    have hX2 : Gr W0 w2 := HX1.out.trans hg2
    have hI0 : VrS ta w.heap.size (w.heap.size + 1) (w.heap.size + 1 + 1) w2.heap.size (w2.heap.size + 1) (w2.heap.size + 2) key s1 (s2 ++ nul) w [] w3 :=
      ⟨HX0.out.trans (hX2.trans hg3), hg3.blk (hX2.blk H3.out), hg3.blk (hX2.blk H4.out), hg3.blk (hX2.blk H5.out), hc1, hc2, hc3, rfl⟩
    have HI0' := Lib.hid hI0
    have HZ : Hid (w.heap.size ≤ w3.heap.size) := Lib.hid hI0.g.size
    have HZ7 : Hid (w.heap.size + 3 ≤ w3.heap.size) := Lib.hid (by have := (Array.getElem?_eq_some_iff.1 hI0.s5).1; omega)
    have HI0 : Hid ((Tryz.prog.info? 42).map (·.size) = some 15) := Lib.hid (by kernel_rfl)
    clear hc1 hc2 hc3 hcs hg2 hg3 hX2 hI0 hcat k_0 k_1 q_0
    refine wpIn_rangeFunc_ownG rfl (by decide) (gf := 73) (lb := #[.pointer (some ⟨w2.heap.size, 0, none⟩), .pointer (some ⟨w2.heap.size + 1, 0, none⟩), .pointer (some ⟨w2.heap.size + 2, 0, none⟩)]) rfl trivial (enters_of Tryz.func73 (by kernel_rfl) rfl)
      (all_stops 2 (by decide) (fun W W' => ItAt ta w2.heap.size (w2.heap.size + 1) (w2.heap.size + 2) S R s1 (s2 ++ nul) W → ItAt ta w2.heap.size (w2.heap.size + 1) (w2.heap.size + 2) S R s1 (s2 ++ nul) W') (fun W W' h k => k h) HSz.out w3 (HI0'.out.it HT.out))
      (fun h k x => k (h x)) (fun W l o o' _ ho hc hw hit => hit.grown (grownBy_putObj' W l o') (fun r e => by cases e; exact ⟨o, ho, hc⟩)) (Below.refl _ _) (fun _ => rfl)
      (VrS ta w.heap.size (w.heap.size + 1) (w.heap.size + 1 + 1) w2.heap.size (w2.heap.size + 1) (w2.heap.size + 2) key s1 (s2 ++ nul) w) (VrX (w.heap.size + 1) (w.heap.size + 1 + 1) key w) (VrS.own HZ.out) (fun c => VrX.own HZ.out c) HI0'.out ?a11 ?assign1 ?body1 ?done1 ?stop1
    case assign1 =>
      intro l x W K hK
      simp only [encR, List.zip_toArray, List.zip_cons_cons, List.zip_nil_left, List.zip_nil_right, ← Array.foldl_toList, List.foldl_cons, List.foldl_nil, List.setIfInBounds_toArray, List.set_cons_zero, List.set_cons_succ]
      gi_wp2
      exact hK
    case stop1 =>
      rintro D c pre W hD hSp hX hK
      obtain ⟨rfl, hg, y, hy, h4, h5⟩ := hX
      have hB : (betweenR s1 (s2 ++ nul) R).find? vOk = some y := prefix_find hSp hy
      have HRes : Hid (verF R key (topS x).1 (topS x).2 = (verOne key y, true)) := Lib.hid (by unfold verF; rw [HVr.out, hB]; rfl)
      have hne4 : w.heap.size + 1 ≠ D := by have := HZ7.out; omega
      have hne5 : w.heap.size + 1 + 1 ≠ D := by have := HZ7.out; omega
      clear HI0' hSp hy hB
      gi_wp2
      refine ⟨by simp, .inl ⟨_, _, rfl, run_takeDeferred hK, ?_⟩⟩
      have q4 := (World.putObj_heap_other (o := .deferred none) hne4 (w := W)).trans h4
      have q5 := (World.putObj_heap_other (o := .deferred none) hne5 (w := W)).trans h5
      obtain ⟨u5, _, _⟩ := blk1 q5
      refine ⟨_, results_row_cell (y := .bool true) rfl _ _ _ _ _ _ _ _ rfl rfl q4 Tryz.underlying42 rfl HI0.out (by simp [loadVar, go_sem, u5]), ?_, hg.grown (grownBy_putObj' W D _) (fun k e => by cases e; exact Nat.le_trans HZ.out hD)⟩
      rw [HRes.out]
    case done1 =>
      rintro D ys W hD hys hI hK
      have HRes : Hid (verF R key (topS x).1 (topS x).2 = (⟨key, ⟨#[]⟩, false, false, 0, 0, itt0⟩, false)) := Lib.hid (by unfold verF; rw [HVr.out, ← hys, hI.no])
      have hg := hI.g
      have h3 := hI.s3
      obtain ⟨k_0, g_0, l_0⟩ := blk1 h3
      obtain ⟨k_1, g_1, l_1⟩ := blk1 hI.s5
      have H4' := Lib.hid hI.s4
      have h5 := hI.s5
      have hne4 : w.heap.size + 1 ≠ D := by have := HZ7.out; omega
      have hne5 : w.heap.size + 1 + 1 ≠ D := by have := HZ7.out; omega
      clear hI HI0' h3
      gi_wp2_with (refine wpListIn_store_row rfl _ _ _ rfl _ (fndA ⟨key, ⟨#[]⟩, false, false, 0, 0, itt0⟩ (.slice none 0 0)) rfl rfl _ _ H4'.out HI0.out (by rfl) (fnd_one _ _ _ _) ?_; obtain ⟨m8_0, m8_1, m8_2⟩ := blk1 ((setRow_other W (w.heap.size + 1) (w.heap.size + 1 + 1) (fndA ⟨key, ⟨#[]⟩, false, false, 0, 0, itt0⟩ (.slice none 0 0)) (by simp)).trans h5))
      have hX : Gr w (W.setRow (w.heap.size + 1) (fndA ⟨key, ⟨#[]⟩, false, false, 0, 0, itt0⟩ (.slice none 0 0))) := ⟨below_setRow hg.b (Nat.le_succ _) _⟩
      have r4 : ((W.setRow (w.heap.size + 1) (fndA ⟨key, ⟨#[]⟩, false, false, 0, 0, itt0⟩ (.slice none 0 0))).setCell ⟨w.heap.size + 1 + 1, 0, none⟩ (.bool false)).heap[w.heap.size + 1]? = some (.cells (fndA ⟨key, ⟨#[]⟩, false, false, 0, 0, itt0⟩ (.slice none 0 0)) 42) := heap_set_other (setRow_heap _ _ _ _ _ _ H4'.out) _ _ (by simp)
      have r5 : ((W.setRow (w.heap.size + 1) (fndA ⟨key, ⟨#[]⟩, false, false, 0, 0, itt0⟩ (.slice none 0 0))).setCell ⟨w.heap.size + 1 + 1, 0, none⟩ (.bool false)).heap[w.heap.size + 1 + 1]? = some (.cells #[.bool false] 4) := heap_set ((setRow_other W (w.heap.size + 1) (w.heap.size + 1 + 1) _ (by simp)).trans h5) 0 _
      have rD : ((W.setRow (w.heap.size + 1) (fndA ⟨key, ⟨#[]⟩, false, false, 0, 0, itt0⟩ (.slice none 0 0))).setCell ⟨w.heap.size + 1 + 1, 0, none⟩ (.bool false)).heap[D]? = some (.deferred (some [])) := heap_set_other (by rw [setRow_other _ _ _ _ (fun e => hne4 e.symm)]; exact hK) _ _ hne5
      have q4 := (World.putObj_heap_other (o := .deferred none) hne4 (w := ((W.setRow (w.heap.size + 1) (fndA ⟨key, ⟨#[]⟩, false, false, 0, 0, itt0⟩ (.slice none 0 0))).setCell ⟨w.heap.size + 1 + 1, 0, none⟩ (.bool false)))).trans r4
      have q5 := (World.putObj_heap_other (o := .deferred none) hne5 (w := ((W.setRow (w.heap.size + 1) (fndA ⟨key, ⟨#[]⟩, false, false, 0, 0, itt0⟩ (.slice none 0 0))).setCell ⟨w.heap.size + 1 + 1, 0, none⟩ (.bool false)))).trans r5
      obtain ⟨u5, _, _⟩ := blk1 q5
      refine ⟨by simp, .inl ⟨_, _, rfl, run_takeDeferred rD, ?_⟩⟩
      refine ⟨_, results_row_cell (y := .bool false) rfl _ _ _ _ _ _ _ _ rfl rfl q4 Tryz.underlying42 rfl HI0.out (by simp [loadVar, go_sem, u5]), ?_, (hX.setCell (p := ⟨w.heap.size + 1 + 1, 0, none⟩) (by simp; omega) _).grown (grownBy_putObj' _ D _) (fun k e => by cases e; exact Nat.le_trans HZ.out hD)⟩
      rw [HRes.out]
    case body1 =>
      rintro l pre y W hI hlt2
      have HI := Lib.hid hI
      have HRV := Lib.hid (fun w => readVersion_any y.1.1 (by have := y.2.1; omega) w)
      have HTV := Lib.hid (fun w => takeVersion_any y.1.2 y.2.2 w)
      have HP : Hid (vOk y.1 = (((readVersionR y.1.1.data.toList).2.2.2 == 0) && ((takeVerR y.1.2.data.toList).2.2 == 0))) := Lib.hid rfl
      have HV : Hid (verOne key y.1 = ⟨key, ⟨(takeVerR y.1.2.data.toList).1.toArray⟩, (takeVerR y.1.2.data.toList).2.1, false, (readVersionR y.1.1.data.toList).2.1, (readVersionR y.1.1.data.toList).2.2.1, itt0⟩) := Lib.hid rfl
      generalize readVersionR y.1.1.data.toList = r at *
      generalize takeVerR y.1.2.data.toList = u at *
      obtain ⟨rk, ra, rb, re⟩ := r
      obtain ⟨uv, ub, ue⟩ := u
      simp only at HRV HTV HP HV
      obtain ⟨j_0, jf_0, jl_0⟩ := blk1 hI.s3
      clear HI0' hI
      by_cases hre : re = 0
      · subst hre
        by_cases hue : ue = 0
        · subst hue
          have HYes : Hid (vOk y.1 = true) := Lib.hid (by rw [HP.out]; rfl)
          gi_wp2_with (first
            | (refine ⟨trivial, ?_⟩; gi_at_call 91; refine (CallsIn.inRound l (callsIn_wide.2 (HRV.out _))).mono ?_; rintro e w13 ⟨rfl, hg13⟩)
            | (refine ⟨trivial, ?_⟩; gi_at_call 92; refine (CallsIn.inRound l (callsIn_wide.2 (HTV.out _))).mono ?_; rintro e w14 ⟨rfl, hg14⟩; have hgW := hg13.trans (((Gr.refl w13).alloc (.cells #[.int .i64 ra, .int .i64 rb] 26)).trans hg14); have j_2 := hgW.cell' j_0; obtain ⟨n_0, n_1, nf_0, nf_1, nl_0⟩ := blk2 (hg14.blk (heap_alloc_new w13 (.cells #[.int .i64 ra, .int .i64 rb] 26))); obtain ⟨k7_0, k7_1, k7_2⟩ := blk1 (hgW.blk HI.out.s5); have HE4 := Lib.hid (hgW.blk HI.out.s4))
            | (refine wpListIn_store_row rfl _ _ _ rfl _ (fndA ⟨key, ⟨uv.toArray⟩, ub, false, ra, rb, itt0⟩ (.slice none 0 0)) rfl rfl _ _ HE4.out HI0.out (by rfl) (fnd_one _ _ _ _) ?_; obtain ⟨m8_0, m8_1, m8_2⟩ := blk1 ((setRow_other w14 (w.heap.size + 1) (w.heap.size + 1 + 1) (fndA ⟨key, ⟨uv.toArray⟩, ub, false, ra, rb, itt0⟩ (.slice none 0 0)) (by simp)).trans (hgW.blk HI.out.s5))))
          obtain ⟨x1, x2⟩ := HI.out.hit hgW HYes.out (by omega) (by omega) (by omega) _ rfl
          rw [HV.out] at x1 x2
          exact ⟨x1.from _, x2⟩
        · have hz : (ue == 0) = false := by simpa using hue
          have HNo : Hid (vOk y.1 = false) := Lib.hid (by rw [HP.out, hz]; simp)
          gi_wp2_with (first
            | (refine ⟨trivial, ?_⟩; gi_at_call 91; refine (CallsIn.inRound l (callsIn_wide.2 (HRV.out _))).mono ?_; rintro e w13 ⟨rfl, hg13⟩)
            | (refine ⟨trivial, ?_⟩; gi_at_call 92; refine (CallsIn.inRound l (callsIn_wide.2 (HTV.out _))).mono ?_; rintro e w14 ⟨rfl, hg14⟩; have hgW := hg13.trans (((Gr.refl w13).alloc (.cells #[.int .i64 ra, .int .i64 rb] 26)).trans hg14); have j_2 := hgW.cell' j_0; obtain ⟨n_0, n_1, nf_0, nf_1, nl_0⟩ := blk2 (hg14.blk (heap_alloc_new w13 (.cells #[.int .i64 ra, .int .i64 rb] 26))); obtain ⟨k7_0, k7_1, k7_2⟩ := blk1 (hgW.blk HI.out.s5); have HE4 := Lib.hid (hgW.blk HI.out.s4)))
          exact ⟨keeps_gr hgW, fun hit => hit.gr hgW, HI.out.next hgW HNo.out⟩
      · have hz : (re == 0) = false := by simpa using hre
        have HNo : Hid (vOk y.1 = false) := Lib.hid (by rw [HP.out, hz]; simp)
        gi_wp2_with (first
          | (refine ⟨trivial, ?_⟩; gi_at_call 91; refine (CallsIn.inRound l (callsIn_wide.2 (HRV.out _))).mono ?_; rintro e w13 ⟨rfl, hg13⟩)
          | (refine ⟨trivial, ?_⟩; gi_at_call 92; refine (CallsIn.inRound l (callsIn_wide.2 (HTV.out _))).mono ?_; rintro e w14 ⟨rfl, hg14⟩; have hgW := hg13.trans (((Gr.refl w13).alloc (.cells #[.int .i64 ra, .int .i64 rb] 26)).trans hg14); have j_2 := hgW.cell' j_0; obtain ⟨n_0, n_1, nf_0, nf_1, nl_0⟩ := blk2 (hg14.blk (heap_alloc_new w13 (.cells #[.int .i64 ra, .int .i64 rb] 26))); obtain ⟨k7_0, k7_1, k7_2⟩ := blk1 (hgW.blk HI.out.s5); have HE4 := Lib.hid (hgW.blk HI.out.s4)))
        exact ⟨keeps_gr hgW, fun hit => hit.gr hgW, HI.out.next hgW HNo.out⟩
  · skip
    have hb1 := HX1.out.blk (HX0.out.blk HB.out)
    unfold rdgC at hb1
    obtain ⟨k_0, _⟩ := blk15 hb1
    obtain ⟨q_0, _, _⟩ := blk1 (HX1.out.blk H3.out)
    have HSt := Lib.hid ((Gr.refl W0).trans HX1.out)
    clear hb1
    gi_wp2_with (first
      | (refine ⟨trivial, ?_⟩; gi_at_call 90; refine (callsIn_wide.2 (HVL.out _ (HSh.out.gr (HX0.out.trans HX1.out)))).mono ?_; rintro e w2 ⟨rfl, hg2⟩; have k_1 := hg2.cell' k_0; have hcat : ¬ 140737488355328 < s2.size + 1 := (by have := HS2.out; omega))
      | (refine ⟨trivial, ?_⟩; gi_at_call 45; go_loud (refine (callsIn_wide.2 (all_tab ta s1 (s2 ++ nul) _)).mono ?_; rintro e w3 ⟨rfl, hc1, hc2, hc3, hcs, hg3⟩)))
    have hX2 : Gr W0 w2 := HX1.out.trans hg2
    have hI0 : VrS ta w.heap.size (w.heap.size + 1) (w.heap.size + 1 + 1) w2.heap.size (w2.heap.size + 1) (w2.heap.size + 2) key s1 (s2 ++ nul) w [] w3 :=
      ⟨HX0.out.trans (hX2.trans hg3), hg3.blk (hX2.blk H3.out), hg3.blk (hX2.blk H4.out), hg3.blk (hX2.blk H5.out), hc1, hc2, hc3, rfl⟩
    have HI0' := Lib.hid hI0
    have HZ : Hid (w.heap.size ≤ w3.heap.size) := Lib.hid hI0.g.size
    have HZ7 : Hid (w.heap.size + 3 ≤ w3.heap.size) := Lib.hid (by have := (Array.getElem?_eq_some_iff.1 hI0.s5).1; omega)
    have HI0 : Hid ((Tryz.prog.info? 42).map (·.size) = some 15) := Lib.hid (by kernel_rfl)
    clear hc1 hc2 hc3 hcs hg2 hg3 hX2 hI0 hcat k_0 k_1 q_0
    refine wpIn_rangeFunc_ownG rfl (by decide) (gf := 73) (lb := #[.pointer (some ⟨w2.heap.size, 0, none⟩), .pointer (some ⟨w2.heap.size + 1, 0, none⟩), .pointer (some ⟨w2.heap.size + 2, 0, none⟩)]) rfl trivial (enters_of Tryz.func73 (by kernel_rfl) rfl)
      (all_stops 2 (by decide) (fun W W' => ItAt ta w2.heap.size (w2.heap.size + 1) (w2.heap.size + 2) S R s1 (s2 ++ nul) W → ItAt ta w2.heap.size (w2.heap.size + 1) (w2.heap.size + 2) S R s1 (s2 ++ nul) W') (fun W W' h k => k h) HSz.out w3 (HI0'.out.it HT.out))
      (fun h k x => k (h x)) (fun W l o o' _ ho hc hw hit => hit.grown (grownBy_putObj' W l o') (fun r e => by cases e; exact ⟨o, ho, hc⟩)) (Below.refl _ _) (fun _ => rfl)
      (VrS ta w.heap.size (w.heap.size + 1) (w.heap.size + 1 + 1) w2.heap.size (w2.heap.size + 1) (w2.heap.size + 2) key s1 (s2 ++ nul) w) (VrX (w.heap.size + 1) (w.heap.size + 1 + 1) key w) (VrS.own HZ.out) (fun c => VrX.own HZ.out c) HI0'.out ?a12 ?assign2 ?body2 ?done2 ?stop2
    case assign2 =>
      intro l x W K hK
      simp only [encR, List.zip_toArray, List.zip_cons_cons, List.zip_nil_left, List.zip_nil_right, ← Array.foldl_toList, List.foldl_cons, List.foldl_nil, List.setIfInBounds_toArray, List.set_cons_zero, List.set_cons_succ]
      gi_wp2
      exact hK
    case stop2 =>
      rintro D c pre W hD hSp hX hK
      obtain ⟨rfl, hg, y, hy, h4, h5⟩ := hX
      have hB : (betweenR s1 (s2 ++ nul) R).find? vOk = some y := prefix_find hSp hy
      have HRes : Hid (verF R key (topS x).1 (topS x).2 = (verOne key y, true)) := Lib.hid (by unfold verF; rw [HVr.out, hB]; rfl)
      have hne4 : w.heap.size + 1 ≠ D := by have := HZ7.out; omega
      have hne5 : w.heap.size + 1 + 1 ≠ D := by have := HZ7.out; omega
      clear HI0' hSp hy hB
      gi_wp2
      refine ⟨by simp, .inl ⟨_, _, rfl, run_takeDeferred hK, ?_⟩⟩
      have q4 := (World.putObj_heap_other (o := .deferred none) hne4 (w := W)).trans h4
      have q5 := (World.putObj_heap_other (o := .deferred none) hne5 (w := W)).trans h5
      obtain ⟨u5, _, _⟩ := blk1 q5
      refine ⟨_, results_row_cell (y := .bool true) rfl _ _ _ _ _ _ _ _ rfl rfl q4 Tryz.underlying42 rfl HI0.out (by simp [loadVar, go_sem, u5]), ?_, hg.grown (grownBy_putObj' W D _) (fun k e => by cases e; exact Nat.le_trans HZ.out hD)⟩
      rw [HRes.out]
    case done2 =>
      rintro D ys W hD hys hI hK
      have HRes : Hid (verF R key (topS x).1 (topS x).2 = (⟨key, ⟨#[]⟩, false, false, 0, 0, itt0⟩, false)) := Lib.hid (by unfold verF; rw [HVr.out, ← hys, hI.no])
      have hg := hI.g
      have h3 := hI.s3
      obtain ⟨k_0, g_0, l_0⟩ := blk1 h3
      obtain ⟨k_1, g_1, l_1⟩ := blk1 hI.s5
      have H4' := Lib.hid hI.s4
      have h5 := hI.s5
      have hne4 : w.heap.size + 1 ≠ D := by have := HZ7.out; omega
      have hne5 : w.heap.size + 1 + 1 ≠ D := by have := HZ7.out; omega
      clear hI HI0' h3
      gi_wp2_with (refine wpListIn_store_row rfl _ _ _ rfl _ (fndA ⟨key, ⟨#[]⟩, false, false, 0, 0, itt0⟩ (.slice none 0 0)) rfl rfl _ _ H4'.out HI0.out (by rfl) (fnd_one _ _ _ _) ?_; obtain ⟨m8_0, m8_1, m8_2⟩ := blk1 ((setRow_other W (w.heap.size + 1) (w.heap.size + 1 + 1) (fndA ⟨key, ⟨#[]⟩, false, false, 0, 0, itt0⟩ (.slice none 0 0)) (by simp)).trans h5))
      have hX : Gr w (W.setRow (w.heap.size + 1) (fndA ⟨key, ⟨#[]⟩, false, false, 0, 0, itt0⟩ (.slice none 0 0))) := ⟨below_setRow hg.b (Nat.le_succ _) _⟩
      have r4 : ((W.setRow (w.heap.size + 1) (fndA ⟨key, ⟨#[]⟩, false, false, 0, 0, itt0⟩ (.slice none 0 0))).setCell ⟨w.heap.size + 1 + 1, 0, none⟩ (.bool false)).heap[w.heap.size + 1]? = some (.cells (fndA ⟨key, ⟨#[]⟩, false, false, 0, 0, itt0⟩ (.slice none 0 0)) 42) := heap_set_other (setRow_heap _ _ _ _ _ _ H4'.out) _ _ (by simp)
      have r5 : ((W.setRow (w.heap.size + 1) (fndA ⟨key, ⟨#[]⟩, false, false, 0, 0, itt0⟩ (.slice none 0 0))).setCell ⟨w.heap.size + 1 + 1, 0, none⟩ (.bool false)).heap[w.heap.size + 1 + 1]? = some (.cells #[.bool false] 4) := heap_set ((setRow_other W (w.heap.size + 1) (w.heap.size + 1 + 1) _ (by simp)).trans h5) 0 _
      have rD : ((W.setRow (w.heap.size + 1) (fndA ⟨key, ⟨#[]⟩, false, false, 0, 0, itt0⟩ (.slice none 0 0))).setCell ⟨w.heap.size + 1 + 1, 0, none⟩ (.bool false)).heap[D]? = some (.deferred (some [])) := heap_set_other (by rw [setRow_other _ _ _ _ (fun e => hne4 e.symm)]; exact hK) _ _ hne5
      have q4 := (World.putObj_heap_other (o := .deferred none) hne4 (w := ((W.setRow (w.heap.size + 1) (fndA ⟨key, ⟨#[]⟩, false, false, 0, 0, itt0⟩ (.slice none 0 0))).setCell ⟨w.heap.size + 1 + 1, 0, none⟩ (.bool false)))).trans r4
      have q5 := (World.putObj_heap_other (o := .deferred none) hne5 (w := ((W.setRow (w.heap.size + 1) (fndA ⟨key, ⟨#[]⟩, false, false, 0, 0, itt0⟩ (.slice none 0 0))).setCell ⟨w.heap.size + 1 + 1, 0, none⟩ (.bool false)))).trans r5
      obtain ⟨u5, _, _⟩ := blk1 q5
      refine ⟨by simp, .inl ⟨_, _, rfl, run_takeDeferred rD, ?_⟩⟩
      refine ⟨_, results_row_cell (y := .bool false) rfl _ _ _ _ _ _ _ _ rfl rfl q4 Tryz.underlying42 rfl HI0.out (by simp [loadVar, go_sem, u5]), ?_, (hX.setCell (p := ⟨w.heap.size + 1 + 1, 0, none⟩) (by simp; omega) _).grown (grownBy_putObj' _ D _) (fun k e => by cases e; exact Nat.le_trans HZ.out hD)⟩
      rw [HRes.out]
    case body2 =>
      rintro l pre y W hI hlt2
      have HI := Lib.hid hI
      have HRV := Lib.hid (fun w => readVersion_any y.1.1 (by have := y.2.1; omega) w)
      have HTV := Lib.hid (fun w => takeVersion_any y.1.2 y.2.2 w)
      have HP : Hid (vOk y.1 = (((readVersionR y.1.1.data.toList).2.2.2 == 0) && ((takeVerR y.1.2.data.toList).2.2 == 0))) := Lib.hid rfl
      have HV : Hid (verOne key y.1 = ⟨key, ⟨(takeVerR y.1.2.data.toList).1.toArray⟩, (takeVerR y.1.2.data.toList).2.1, false, (readVersionR y.1.1.data.toList).2.1, (readVersionR y.1.1.data.toList).2.2.1, itt0⟩) := Lib.hid rfl
      generalize readVersionR y.1.1.data.toList = r at *
      generalize takeVerR y.1.2.data.toList = u at *
      obtain ⟨rk, ra, rb, re⟩ := r
      obtain ⟨uv, ub, ue⟩ := u
      simp only at HRV HTV HP HV
      obtain ⟨j_0, jf_0, jl_0⟩ := blk1 hI.s3
      clear HI0' hI
      by_cases hre : re = 0
      · subst hre
        by_cases hue : ue = 0
        · subst hue
          have HYes : Hid (vOk y.1 = true) := Lib.hid (by rw [HP.out]; rfl)
          gi_wp2_with (first
            | (refine ⟨trivial, ?_⟩; gi_at_call 91; refine (CallsIn.inRound l (callsIn_wide.2 (HRV.out _))).mono ?_; rintro e w13 ⟨rfl, hg13⟩)
            | (refine ⟨trivial, ?_⟩; gi_at_call 92; refine (CallsIn.inRound l (callsIn_wide.2 (HTV.out _))).mono ?_; rintro e w14 ⟨rfl, hg14⟩; have hgW := hg13.trans (((Gr.refl w13).alloc (.cells #[.int .i64 ra, .int .i64 rb] 26)).trans hg14); have j_2 := hgW.cell' j_0; obtain ⟨n_0, n_1, nf_0, nf_1, nl_0⟩ := blk2 (hg14.blk (heap_alloc_new w13 (.cells #[.int .i64 ra, .int .i64 rb] 26))); obtain ⟨k7_0, k7_1, k7_2⟩ := blk1 (hgW.blk HI.out.s5); have HE4 := Lib.hid (hgW.blk HI.out.s4))
            | (refine wpListIn_store_row rfl _ _ _ rfl _ (fndA ⟨key, ⟨uv.toArray⟩, ub, false, ra, rb, itt0⟩ (.slice none 0 0)) rfl rfl _ _ HE4.out HI0.out (by rfl) (fnd_one _ _ _ _) ?_; obtain ⟨m8_0, m8_1, m8_2⟩ := blk1 ((setRow_other w14 (w.heap.size + 1) (w.heap.size + 1 + 1) (fndA ⟨key, ⟨uv.toArray⟩, ub, false, ra, rb, itt0⟩ (.slice none 0 0)) (by simp)).trans (hgW.blk HI.out.s5))))
          obtain ⟨x1, x2⟩ := HI.out.hit hgW HYes.out (by omega) (by omega) (by omega) _ rfl
          rw [HV.out] at x1 x2
          exact ⟨x1.from _, x2⟩
        · have hz : (ue == 0) = false := by simpa using hue
          have HNo : Hid (vOk y.1 = false) := Lib.hid (by rw [HP.out, hz]; simp)
          gi_wp2_with (first
            | (refine ⟨trivial, ?_⟩; gi_at_call 91; refine (CallsIn.inRound l (callsIn_wide.2 (HRV.out _))).mono ?_; rintro e w13 ⟨rfl, hg13⟩)
            | (refine ⟨trivial, ?_⟩; gi_at_call 92; refine (CallsIn.inRound l (callsIn_wide.2 (HTV.out _))).mono ?_; rintro e w14 ⟨rfl, hg14⟩; have hgW := hg13.trans (((Gr.refl w13).alloc (.cells #[.int .i64 ra, .int .i64 rb] 26)).trans hg14); have j_2 := hgW.cell' j_0; obtain ⟨n_0, n_1, nf_0, nf_1, nl_0⟩ := blk2 (hg14.blk (heap_alloc_new w13 (.cells #[.int .i64 ra, .int .i64 rb] 26))); obtain ⟨k7_0, k7_1, k7_2⟩ := blk1 (hgW.blk HI.out.s5); have HE4 := Lib.hid (hgW.blk HI.out.s4)))
          exact ⟨keeps_gr hgW, fun hit => hit.gr hgW, HI.out.next hgW HNo.out⟩
      · have hz : (re == 0) = false := by simpa using hre
        have HNo : Hid (vOk y.1 = false) := Lib.hid (by rw [HP.out, hz]; simp)
        gi_wp2_with (first
          | (refine ⟨trivial, ?_⟩; gi_at_call 91; refine (CallsIn.inRound l (callsIn_wide.2 (HRV.out _))).mono ?_; rintro e w13 ⟨rfl, hg13⟩)
          | (refine ⟨trivial, ?_⟩; gi_at_call 92; refine (CallsIn.inRound l (callsIn_wide.2 (HTV.out _))).mono ?_; rintro e w14 ⟨rfl, hg14⟩; have hgW := hg13.trans (((Gr.refl w13).alloc (.cells #[.int .i64 ra, .int .i64 rb] 26)).trans hg14); have j_2 := hgW.cell' j_0; obtain ⟨n_0, n_1, nf_0, nf_1, nl_0⟩ := blk2 (hg14.blk (heap_alloc_new w13 (.cells #[.int .i64 ra, .int .i64 rb] 26))); obtain ⟨k7_0, k7_1, k7_2⟩ := blk1 (hgW.blk HI.out.s5); have HE4 := Lib.hid (hgW.blk HI.out.s4)))
        exact ⟨keeps_gr hgW, fun hit => hit.gr hgW, HI.out.next hgW HNo.out⟩
end Go.Proofs.YthgecojbggoniaaGreatDoor
