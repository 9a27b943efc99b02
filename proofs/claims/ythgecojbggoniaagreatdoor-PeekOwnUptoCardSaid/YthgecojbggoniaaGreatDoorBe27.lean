/- What the rows stand on, part 27: RftC. Printed by bundle.py out of my texts. -/
import Derived.Test.YthgecojbggoniaaGreatDoorBe26
import Derived.BigQuiet
namespace Go.Proofs.YthgecojbggoniaaGreatDoor
open Go.RowKit
set_option maxRecDepth 100000
set_option linter.unusedVariables false
set_option linter.unusedSimpArgs false
set_option linter.unnecessarySimpa false

/-- only the block tb turns -/
structure Fr1 (tb : Nat) (w w' : World) : Prop where
  os : w'.os = w.os
  tape : w'.tape = w.tape
  output : w'.output = w.output
  size : w.heap.size ≤ w'.heap.size
  blk : ∀ k o, k ≠ tb → w.heap[k]? = some o → w'.heap[k]? = some o
theorem Fr1.gr {tb : Nat} {a b : World} (h : Gr a b) : Fr1 tb a b := ⟨h.b.os, h.b.tape, h.b.output, h.b.size, fun _ _ _ ho => h.blk ho⟩
theorem Fr1.trans {tb : Nat} {a b c : World} (h : Fr1 tb a b) (k : Fr1 tb b c) : Fr1 tb a c :=
  ⟨k.os.trans h.os, k.tape.trans h.tape, k.output.trans h.output, Nat.le_trans h.size k.size, fun i o hn ho => k.blk i o hn (h.blk i o hn ho)⟩
theorem Fr1.set {tb i : Nat} {w : World} (v : Value) : Fr1 tb w (w.setCell ⟨tb, i, none⟩ v) := ⟨rfl, rfl, rfl, by simp, fun k o hn ho => heap_set_other ho _ _ (fun e => hn e.symm)⟩
theorem Fr1.toGr {tb : Nat} {w0 a b : World} (hg : Gr w0 a) (h : Fr1 tb a b) (hS : w0.heap.size ≤ tb) : Gr w0 b := by
  refine ⟨⟨h.os.trans hg.b.os, h.tape.trans hg.b.tape, h.output.trans hg.b.output, Nat.le_trans hg.b.size h.size, fun k hk => ?_⟩⟩
  have hk2 : k < w0.heap.size := hk
  rw [← hg.b.block k hk]
  have hka : k < a.heap.size := Nat.lt_of_lt_of_le hk2 hg.b.size
  rw [h.blk k a.heap[k] (by omega) (Array.getElem?_eq_getElem hka), Array.getElem?_eq_getElem hka]
/-- the document's table -/
structure DocAt (tb N : Nat) (R : List Rw) (w : World) : Prop where
  ex : ∃ v, w.heap[tb]? = some (.cells #[v] 61) ∧ OwnG 94 2 rowC w N v R
  low : N ≤ tb
theorem DocAt.gr {tb N : Nat} {R : List Rw} {w w' : World} (h : DocAt tb N R w) (hg : Gr w w') : DocAt tb N R w' := by
  obtain ⟨v, h1, h2⟩ := h.ex
  exact ⟨⟨v, hg.blk h1, h2.gr hg⟩, h.low⟩
theorem DocAt.mono {tb N N' : Nat} {R : List Rw} {w : World} (h : DocAt tb N R w) (hN : N' ≤ N) : DocAt tb N' R w := by
  obtain ⟨v, h1, h2⟩ := h.ex
  exact ⟨⟨v, h1, h2.mono hN⟩, Nat.le_trans hN h.low⟩
theorem DocAt.blk {tb N : Nat} {R : List Rw} {w w' : World} (h : DocAt tb N R w) (hb : ∀ (k : Nat) (cs : Array Value) (t : TypeId) (fz : Nat × Nat), t = 61 ∨ t = 94 → w.heap[k]? = some (Obj.cells cs t fz) → w'.heap[k]? = some (Obj.cells cs t fz)) : DocAt tb N R w' := by
  obtain ⟨v, h1, h2⟩ := h.ex
  exact ⟨⟨v, hb _ _ _ _ (.inl rfl) h1, h2.kept (fun g c f hh => hb _ _ _ _ (.inr rfl) hh)⟩, h.low⟩
theorem rest_eq {key : ByteArray} {R : List Rw} {x : Rw} {r : List Rw} (h : aboveR key R = x :: r) (hx : (x.1.toList == key.toList) = true) : restR key (aboveR key R) = R.drop ((belowR key R).length + 1) := by
  rw [← List.drop_drop, above_drop, h]
  simp [restR, hx]
theorem rest_ne {key : ByteArray} {R : List Rw} {x : Rw} {r : List Rw} (h : aboveR key R = x :: r) (hx : (x.1.toList == key.toList) = false) : restR key (aboveR key R) = R.drop (belowR key R).length := by
  rw [above_drop, h]
  simp [restR, hx]
theorem rest_nil {key : ByteArray} {R : List Rw} (h : aboveR key R = []) : restR key (aboveR key R) = R.drop (belowR key R).length := by
  rw [above_drop, h]
  rfl
theorem above_at {key : ByteArray} {R : List Rw} (h : (belowR key R).length < R.length) : aboveR key R = R[(belowR key R).length] :: R.drop ((belowR key R).length + 1) := by
  rw [← above_drop]
  exact List.drop_eq_getElem_cons h
theorem doc_end {tb N : Nat} {R : List Rw} {w W w3 : World} {v0 v3 : Value} (hW : Gr w W) (hT : W.heap[tb]? = some (.cells #[v0] 61)) (hN : N ≤ w.heap.size) (hl : N ≤ tb) (hg : Gr W w3) (h3 : OwnG 94 2 rowC w3 W.heap.size v3 R) :
    DocAt tb N R (w3.setCell ⟨tb, 0, none⟩ v3) ∧ Fr1 tb w (w3.setCell ⟨tb, 0, none⟩ v3) := by
  have hT3 := hg.blk hT
  refine ⟨⟨⟨v3, heap_set hT3 0 _, (h3.mono (Nat.le_trans hN hW.size)).kept (fun g c f hh => heap_set_other hh _ _ (fun e => ?_))⟩, hl⟩, (Fr1.gr (hW.trans hg)).trans (Fr1.set _)⟩
  rw [← e, hT3] at hh
  cases hh
theorem slice_any {e : TypeId} {k : Nat} {α : Type} {enc : α → List Value} {w : World} {N : Nat} {v : Value} {l : List α} (h : OwnG e k enc w N v l) : ∃ q c z, v = .slice q z c := by
  obtain ⟨q, c, e⟩ := h.slice
  exact ⟨q, c, _, e⟩
set_option maxHeartbeats 4000000 in
theorem one10_true {tb N : Nat} {R : List Rw} {w : World} (h : DocAt tb N R w) (hN : N ≤ w.heap.size) (okey oval : ByteArray) (hlen : (R.length + 1) * 32 ≤ 140737488355328) :
    Calls Tryz.prog 58 #[.pointer (some ⟨tb, 0, none⟩), .agg #[.string okey, .string oval, .bool true]] w fun e w' => e = .returned (.tuple #[]) ∧ DocAt tb N (one R ⟨okey, oval, true⟩) w' ∧ Fr1 tb w w' := by
  have HLow := Lib.hid h.low
  obtain ⟨v, h1, h2⟩ := h.ex
  have HOp := Lib.hid (heap_alloc_new w (.cells #[.string okey, .string oval, .bool true] 67))
  obtain ⟨a_0, a_1, a_2, _, _, _, _⟩ := blk3 HOp.out
  have HW : Hid (Gr w (w.alloc (.cells #[.string okey, .string oval, .bool true] 67))) := Lib.hid ((Gr.refl w).alloc _)
  have HAt := Lib.hid (at10_any (heap_alloc1 h1) (RdRw.gr (h2.rd encRow (by decide)) HW.out) (by omega) okey)
  have hRd : RdRw _ v R := (RdRw.gr (h2.rd encRow (by decide)) HW.out)
  have HRd := Lib.hid hRd
  have HOwn := Lib.hid h2
  have HT := Lib.hid (HW.out.blk h1)
  obtain ⟨k_0, g_0, l_0⟩ := blk1 HT.out
  obtain ⟨q, c, rfl⟩ := RdRw.form hRd
  have hlenv := fun W ty => len_rows (w := W) (q := q) (n := R.length) (c := c) (ty := ty)
  have hle := below_le okey R
  have HBel := Lib.hid (below_take okey R)
  have HRN : Hid (∀ x r, aboveR okey R = x :: r → (x.1.toList == okey.toList) = false → restR okey (aboveR okey R) = R.drop (belowR okey R).length) := Lib.hid (fun x r => rest_ne)
  have HRE : Hid (∀ x r, aboveR okey R = x :: r → (x.1.toList == okey.toList) = true → restR okey (aboveR okey R) = R.drop ((belowR okey R).length + 1)) := Lib.hid (fun x r => rest_eq)
  have HRZ : Hid (aboveR okey R = [] → restR okey (aboveR okey R) = R.drop (belowR okey R).length) := Lib.hid rest_nil
  have HAb : Hid (∀ hn : (belowR okey R).length < R.length, aboveR okey R = R[(belowR okey R).length] :: R.drop ((belowR okey R).length + 1)) := Lib.hid above_at
  have HAD := Lib.hid (above_drop okey R)
  clear h1 h2 h hRd
  generalize hW0 : w.alloc (.cells #[.string okey, .string oval, .bool true] 67) = W at *
  have HW0 := Lib.hid hW0
  clear hW0
  generalize hn0 : (belowR okey R).length = n at *
  clear hn0
  by_cases hn : n < R.length
  · obtain ⟨bk, of, cp, e1, q1, q2, c0, c1⟩ := RdRw.at HRd.out hn
    cases e1
    unfold maxLen at q2
    have hAb := HAb.out hn
    have HT1 : Hid (∀ W', Gr W W' → RdR (RE rowC) 2 W' (.slice (some ⟨bk, of, none⟩) n c) (R.take n)) := Lib.hid (fun W' hg => RdE.gr hg (RdE.take HRd.out n hle))
    cases hx : (R[n].1.toList == okey.toList) with
    | true =>
      have HRest := Lib.hid (HRE.out _ _ hAb hx)
      clear hAb HRE HRN HRZ HAb HAD
      have hwr : IntKind.i64.wrap ((n : Int) + 1) = (n : Int) + 1 := IntWalk.i64_in _ (by omega)
      by_cases hcm0 : c = n + 1
      · have hcm := Lib.hid hcm0
        clear hcm0
        have HD1 : Hid (∀ W', Gr W W' → RdR (RE rowC) 2 W' (.slice (some ⟨bk, of, none⟩) (R.length - (n + 1)) (c - (n + 1))) (R.drop (n + 1))) := Lib.hid (fun W' hg => .inl ⟨by rw [List.drop_eq_nil_iff]; have := hcm.out; omega, some ⟨bk, of, none⟩, _, by rw [show R.length - (n + 1) = 0 by have := hcm.out; omega], by unfold maxLen; omega, fun e => by cases e⟩)
        have HFin : Hid (one R ⟨okey, oval, true⟩ = R.take n ++ R.drop (n + 1)) := Lib.hid (by unfold one dropR; rw [if_pos rfl]; simp only []; rw [HRest.out, HBel.out])
        go_enter Tryz.func58, Tryz.ntmps58
        go_wp2_with fail
        rw [HW0.out]
        refine HAt.out.mono ?_
        rintro e w1 ⟨rfl, rfl⟩
        go_wp2
        go_quiet (fail)
        go_wp2_with (first
          | (at_builtin; refine app_gen elRow encRow (N := W.heap.size) ((Gr.refl W).drewN _).size (by rfl) _ _ (by rfl) [] (R.take n) (by rfl) (by rfl) (OwnG.nil _ _) (HT1.out _ ((Gr.refl W).drewN _)) (by rw [List.length_nil, List.length_take]; omega) (by rw [List.length_nil, List.length_take]; omega) ?_; intro v1 w1 hown1 hgb1; have hg1 : Gr W w1 := ((Gr.refl W).drewN _).grown hgb1 (fun k hk => by simp [Value.ownBlock] at hk); rw [List.nil_append] at hown1; have HO1 := Lib.hid hown1; obtain ⟨q1, c1, z1, rfl⟩ := slice_any hown1; clear hown1; obtain ⟨k1_0, g1_0, l1_0⟩ := blk1 (hg1.blk HT.out); obtain ⟨b_0, b_1, b_2, _, _, _, _⟩ := blk3 (hg1.blk HOp.out))
          | (at_builtin; refine app_gen elRow encRow (N := W.heap.size) hg1.size (by rfl) _ _ (by rfl) (R.take n) (R.drop (n + 1)) (by rfl) (by simp [Act.eval, hcm.out]) HO1.out (HD1.out _ hg1) (by rw [List.length_drop, List.length_take]; omega) (by rw [List.length_drop, List.length_take]; omega) ?_; intro v2 w2 hown2 hgb2; have hg2 : Gr W w2 := hg1.grown hgb2 (fun k hk => (World.ownsRow.lt HO1.out k hk).1); have HO2 := Lib.hid hown2; obtain ⟨q2, c2, z2, rfl⟩ := slice_any hown2; clear hown2; obtain ⟨k2_0, g2_0, l2_0⟩ := blk1 (hg2.blk HT.out)))
        go_end0
        exact ⟨rfl, doc_end HW.out HT.out hN HLow.out hg2 (by rw [HFin.out]; exact HO2.out)⟩
      · have hcm := Lib.hid hcm0
        clear hcm0
        have HD1 : Hid (∀ W', Gr W W' → RdR (RE rowC) 2 W' (.slice (some ⟨bk, of + (n + 1) * 2, none⟩) (R.length - (n + 1)) (c - (n + 1))) (R.drop (n + 1))) := Lib.hid (fun W' hg => RdE.gr hg (RdE.drop HRd.out (n + 1) (by omega)))
        have HFin : Hid (one R ⟨okey, oval, true⟩ = R.take n ++ R.drop (n + 1)) := Lib.hid (by unfold one dropR; rw [if_pos rfl]; simp only []; rw [HRest.out, HBel.out])
        go_enter Tryz.func58, Tryz.ntmps58
        go_wp2_with fail
        rw [HW0.out]
        refine HAt.out.mono ?_
        rintro e w1 ⟨rfl, rfl⟩
        go_wp2
        go_quiet (fail)
        go_wp2_with (first
          | (at_builtin; refine app_gen elRow encRow (N := W.heap.size) ((Gr.refl W).drewN _).size (by rfl) _ _ (by rfl) [] (R.take n) (by rfl) (by rfl) (OwnG.nil _ _) (HT1.out _ ((Gr.refl W).drewN _)) (by rw [List.length_nil, List.length_take]; omega) (by rw [List.length_nil, List.length_take]; omega) ?_; intro v1 w1 hown1 hgb1; have hg1 : Gr W w1 := ((Gr.refl W).drewN _).grown hgb1 (fun k hk => by simp [Value.ownBlock] at hk); rw [List.nil_append] at hown1; have HO1 := Lib.hid hown1; obtain ⟨q1, c1, z1, rfl⟩ := slice_any hown1; clear hown1; obtain ⟨k1_0, g1_0, l1_0⟩ := blk1 (hg1.blk HT.out); obtain ⟨b_0, b_1, b_2, _, _, _, _⟩ := blk3 (hg1.blk HOp.out))
          | (at_builtin; refine app_gen elRow encRow (N := W.heap.size) hg1.size (by rfl) _ _ (by rfl) (R.take n) (R.drop (n + 1)) (by rfl) (by simp [Act.eval, hcm.out]) HO1.out (HD1.out _ hg1) (by rw [List.length_drop, List.length_take]; omega) (by rw [List.length_drop, List.length_take]; omega) ?_; intro v2 w2 hown2 hgb2; have hg2 : Gr W w2 := hg1.grown hgb2 (fun k hk => (World.ownsRow.lt HO1.out k hk).1); have HO2 := Lib.hid hown2; obtain ⟨q2, c2, z2, rfl⟩ := slice_any hown2; clear hown2; obtain ⟨k2_0, g2_0, l2_0⟩ := blk1 (hg2.blk HT.out)))
        go_end0
        exact ⟨rfl, doc_end HW.out HT.out hN HLow.out hg2 (by rw [HFin.out]; exact HO2.out)⟩
    | false =>
      have HRest := Lib.hid (HRN.out _ _ hAb hx)
      have HD1 : Hid (∀ W', Gr W W' → RdR (RE rowC) 2 W' (.slice (some ⟨bk, of + n * 2, none⟩) (R.length - n) (c - n)) (R.drop n)) := Lib.hid (fun W' hg => RdE.gr hg (RdE.drop HRd.out n (by omega)))
      clear hAb HRE HRN HRZ HAb HAD
      have HFin : Hid (one R ⟨okey, oval, true⟩ = R.take n ++ R.drop n) := Lib.hid (by unfold one dropR; rw [if_pos rfl]; simp only []; rw [HRest.out, HBel.out])
      go_enter Tryz.func58, Tryz.ntmps58
      go_wp2_with fail
      rw [HW0.out]
      refine HAt.out.mono ?_
      rintro e w1 ⟨rfl, rfl⟩
      go_wp2
      go_quiet (fail)
      go_wp2_with (first
        | (at_builtin; refine app_gen elRow encRow (N := W.heap.size) ((Gr.refl W).drewN _).size (by rfl) _ _ (by rfl) [] (R.take n) (by rfl) (by rfl) (OwnG.nil _ _) (HT1.out _ ((Gr.refl W).drewN _)) (by rw [List.length_nil, List.length_take]; omega) (by rw [List.length_nil, List.length_take]; omega) ?_; intro v1 w1 hown1 hgb1; have hg1 : Gr W w1 := ((Gr.refl W).drewN _).grown hgb1 (fun k hk => by simp [Value.ownBlock] at hk); rw [List.nil_append] at hown1; have HO1 := Lib.hid hown1; obtain ⟨q1, c1, z1, rfl⟩ := slice_any hown1; clear hown1; obtain ⟨k1_0, g1_0, l1_0⟩ := blk1 (hg1.blk HT.out); obtain ⟨b_0, b_1, b_2, _, _, _, _⟩ := blk3 (hg1.blk HOp.out))
        | (at_builtin; refine app_gen elRow encRow (N := W.heap.size) hg1.size (by rfl) _ _ (by rfl) (R.take n) (R.drop n) (by rfl) (by rfl) HO1.out (HD1.out _ hg1) (by rw [List.length_drop, List.length_take]; omega) (by rw [List.length_drop, List.length_take]; omega) ?_; intro v2 w2 hown2 hgb2; have hg2 : Gr W w2 := hg1.grown hgb2 (fun k hk => (World.ownsRow.lt HO1.out k hk).1); have HO2 := Lib.hid hown2; obtain ⟨q2, c2, z2, rfl⟩ := slice_any hown2; clear hown2; obtain ⟨k2_0, g2_0, l2_0⟩ := blk1 (hg2.blk HT.out)))
      go_end0
      exact ⟨rfl, doc_end HW.out HT.out hN HLow.out hg2 (by rw [HFin.out]; exact HO2.out)⟩
  · obtain rfl : n = R.length := by omega
    have hlt : decide ((R.length : Int) < (R.length : Int)) = false := by simp
    have HRest : Hid (restR okey (aboveR okey R) = R.drop R.length) := Lib.hid (HRZ.out (by rw [← HAD.out]; simp))
    have hc2 : R.length ≤ c ∧ c ≤ maxLen := by
      rcases HRd.out with ⟨h1, q', c', h2, h3, h4⟩ | ⟨blk, off, cap, h1, h2, h3, h4, _⟩
      · injection h2 with i1 i2 i3; subst i3; rw [h1]; exact ⟨Nat.zero_le _, h3⟩
      · injection h1 with i1 i2 i3; subst i3; exact ⟨h3, h4⟩
    unfold maxLen at hc2
    obtain ⟨hc2, hc3⟩ := hc2
    have HT1 : Hid (∀ W', Gr W W' → RdR (RE rowC) 2 W' (.slice q R.length c) (R.take R.length)) := Lib.hid (fun W' hg => RdE.gr hg (RdE.take HRd.out R.length (Nat.le_refl _)))
    clear HRE HRN HRZ HAb HAD
    cases q with
    | none =>
      have hc0 : c = 0 ∧ R = [] := by
        rcases HRd.out with ⟨h1, q', c', h2, h3, h4⟩ | ⟨blk, off, cap, h1, h2, h3, h4, _⟩
        · injection h2 with i1 i2 i3; subst i1 i3; exact ⟨h4 rfl, h1⟩
        · injection h1 with i1; cases i1
      obtain ⟨rfl, rfl⟩ := hc0
      have HT1 : Hid (∀ W', Gr W W' → RdR (RE rowC) 2 W' (.slice none 0 0) ([] : List Rw)) := Lib.hid (fun W' hg => .inl ⟨rfl, none, 0, rfl, by simp, fun _ => rfl⟩)
      have HD1 : Hid (∀ W', Gr W W' → RdR (RE rowC) 2 W' (.slice none 0 0) ([] : List Rw)) := Lib.hid (fun W' hg => .inl ⟨rfl, none, 0, rfl, by simp, fun _ => rfl⟩)
      simp only [List.length_nil, Int.natCast_zero] at *
      have HFin : Hid (one [] ⟨okey, oval, true⟩ = ([] : List Rw) ++ ([] : List Rw)) := Lib.hid rfl
      go_enter Tryz.func58, Tryz.ntmps58
      go_wp2_with fail
      rw [HW0.out]
      refine HAt.out.mono ?_
      rintro e w1 ⟨rfl, rfl⟩
      go_wp2
      go_quiet (fail)
      go_wp2_with (first
        | (at_builtin; refine app_gen elRow encRow (N := W.heap.size) ((Gr.refl W).drewN _).size (by rfl) _ _ (by rfl) [] ([]) (by rfl) (by rfl) (OwnG.nil _ _) (HT1.out _ ((Gr.refl W).drewN _)) (by simp) (by simp) ?_; intro v1 w1 hown1 hgb1; have hg1 : Gr W w1 := ((Gr.refl W).drewN _).grown hgb1 (fun k hk => by simp [Value.ownBlock] at hk); rw [List.nil_append] at hown1; have HO1 := Lib.hid hown1; obtain ⟨q1, c1, z1, rfl⟩ := slice_any hown1; clear hown1; obtain ⟨k1_0, g1_0, l1_0⟩ := blk1 (hg1.blk HT.out); obtain ⟨b_0, b_1, b_2, _, _, _, _⟩ := blk3 (hg1.blk HOp.out))
        | (at_builtin; refine app_gen elRow encRow (N := W.heap.size) hg1.size (by rfl) _ _ (by rfl) ([]) ([]) (by rfl) (by rfl) HO1.out (HD1.out _ hg1) (by simp) (by simp) ?_; intro v2 w2 hown2 hgb2; have hg2 : Gr W w2 := hg1.grown hgb2 (fun k hk => (World.ownsRow.lt HO1.out k hk).1); have HO2 := Lib.hid hown2; obtain ⟨q2, c2, z2, rfl⟩ := slice_any hown2; clear hown2; obtain ⟨k2_0, g2_0, l2_0⟩ := blk1 (hg2.blk HT.out)))
      go_end0
      exact ⟨rfl, doc_end HW.out HT.out hN HLow.out hg2 (by rw [HFin.out]; exact HO2.out)⟩
    | some a =>
      obtain ⟨bk, of, th⟩ := a
      obtain rfl : th = none := by
        rcases HOwn.out.2 with ⟨h, _⟩ | ⟨g, cap, cur, h, _⟩
        · injection h with i1; cases i1
        · injection h with i1; injection i1 with i1; injection i1
      by_cases hcm0 : c = R.length
      · have hcm := Lib.hid hcm0
        clear hcm0
        have HD1 : Hid (∀ W', Gr W W' → RdR (RE rowC) 2 W' (.slice (some ⟨bk, of, none⟩) (R.length - R.length) (c - R.length)) (R.drop R.length)) := Lib.hid (fun W' hg => .inl ⟨by rw [List.drop_eq_nil_iff]; have := hcm.out; omega, some ⟨bk, of, none⟩, _, by rw [Nat.sub_self], by unfold maxLen; omega, fun e => by cases e⟩)
        have HFin : Hid (one R ⟨okey, oval, true⟩ = R.take R.length ++ R.drop R.length) := Lib.hid (by unfold one dropR; rw [if_pos rfl]; simp only []; rw [HRest.out, HBel.out])
        go_enter Tryz.func58, Tryz.ntmps58
        go_wp2_with fail
        rw [HW0.out]
        refine HAt.out.mono ?_
        rintro e w1 ⟨rfl, rfl⟩
        go_wp2
        go_quiet (fail)
        go_wp2_with (first
          | (at_builtin; refine app_gen elRow encRow (N := W.heap.size) ((Gr.refl W).drewN _).size (by rfl) _ _ (by rfl) [] (R.take R.length) (by rfl) (by rfl) (OwnG.nil _ _) (HT1.out _ ((Gr.refl W).drewN _)) (by rw [List.length_nil, List.length_take]; omega) (by rw [List.length_nil, List.length_take]; omega) ?_; intro v1 w1 hown1 hgb1; have hg1 : Gr W w1 := ((Gr.refl W).drewN _).grown hgb1 (fun k hk => by simp [Value.ownBlock] at hk); rw [List.nil_append] at hown1; have HO1 := Lib.hid hown1; obtain ⟨q1, c1, z1, rfl⟩ := slice_any hown1; clear hown1; obtain ⟨k1_0, g1_0, l1_0⟩ := blk1 (hg1.blk HT.out); obtain ⟨b_0, b_1, b_2, _, _, _, _⟩ := blk3 (hg1.blk HOp.out))
          | (at_builtin; refine app_gen elRow encRow (N := W.heap.size) hg1.size (by rfl) _ _ (by rfl) (R.take R.length) (R.drop R.length) (by rfl) (by simp [Act.eval, hcm.out]) HO1.out (HD1.out _ hg1) (by rw [List.length_drop, List.length_take]; omega) (by rw [List.length_drop, List.length_take]; omega) ?_; intro v2 w2 hown2 hgb2; have hg2 : Gr W w2 := hg1.grown hgb2 (fun k hk => (World.ownsRow.lt HO1.out k hk).1); have HO2 := Lib.hid hown2; obtain ⟨q2, c2, z2, rfl⟩ := slice_any hown2; clear hown2; obtain ⟨k2_0, g2_0, l2_0⟩ := blk1 (hg2.blk HT.out)))
        go_end0
        exact ⟨rfl, doc_end HW.out HT.out hN HLow.out hg2 (by rw [HFin.out]; exact HO2.out)⟩
      · have hcm := Lib.hid hcm0
        clear hcm0
        have HD1 : Hid (∀ W', Gr W W' → RdR (RE rowC) 2 W' (.slice (some ⟨bk, of + R.length * 2, none⟩) (R.length - R.length) (c - R.length)) (R.drop R.length)) := Lib.hid (fun W' hg => RdE.gr hg (RdE.drop HRd.out R.length (Nat.le_refl _)))
        have HFin : Hid (one R ⟨okey, oval, true⟩ = R.take R.length ++ R.drop R.length) := Lib.hid (by unfold one dropR; rw [if_pos rfl]; simp only []; rw [HRest.out, HBel.out])
        go_enter Tryz.func58, Tryz.ntmps58
        go_wp2_with fail
        rw [HW0.out]
        refine HAt.out.mono ?_
        rintro e w1 ⟨rfl, rfl⟩
        go_wp2
        go_quiet (fail)
        go_wp2_with (first
          | (at_builtin; refine app_gen elRow encRow (N := W.heap.size) ((Gr.refl W).drewN _).size (by rfl) _ _ (by rfl) [] (R.take R.length) (by rfl) (by rfl) (OwnG.nil _ _) (HT1.out _ ((Gr.refl W).drewN _)) (by rw [List.length_nil, List.length_take]; omega) (by rw [List.length_nil, List.length_take]; omega) ?_; intro v1 w1 hown1 hgb1; have hg1 : Gr W w1 := ((Gr.refl W).drewN _).grown hgb1 (fun k hk => by simp [Value.ownBlock] at hk); rw [List.nil_append] at hown1; have HO1 := Lib.hid hown1; obtain ⟨q1, c1, z1, rfl⟩ := slice_any hown1; clear hown1; obtain ⟨k1_0, g1_0, l1_0⟩ := blk1 (hg1.blk HT.out); obtain ⟨b_0, b_1, b_2, _, _, _, _⟩ := blk3 (hg1.blk HOp.out))
          | (at_builtin; refine app_gen elRow encRow (N := W.heap.size) hg1.size (by rfl) _ _ (by rfl) (R.take R.length) (R.drop R.length) (by rfl) (by simp [Act.eval, hcm.out]) HO1.out (HD1.out _ hg1) (by rw [List.length_drop, List.length_take]; omega) (by rw [List.length_drop, List.length_take]; omega) ?_; intro v2 w2 hown2 hgb2; have hg2 : Gr W w2 := hg1.grown hgb2 (fun k hk => (World.ownsRow.lt HO1.out k hk).1); have HO2 := Lib.hid hown2; obtain ⟨q2, c2, z2, rfl⟩ := slice_any hown2; clear hown2; obtain ⟨k2_0, g2_0, l2_0⟩ := blk1 (hg2.blk HT.out)))
        go_end0
        exact ⟨rfl, doc_end HW.out HT.out hN HLow.out hg2 (by rw [HFin.out]; exact HO2.out)⟩
set_option maxHeartbeats 4000000 in
theorem one10_false {tb N : Nat} {R : List Rw} {w : World} (h : DocAt tb N R w) (hN : N ≤ w.heap.size) (okey oval : ByteArray) (hlen : (R.length + 1) * 32 ≤ 140737488355328) :
    Calls Tryz.prog 58 #[.pointer (some ⟨tb, 0, none⟩), .agg #[.string okey, .string oval, .bool false]] w fun e w' => e = .returned (.tuple #[]) ∧ DocAt tb N (one R ⟨okey, oval, false⟩) w' ∧ Fr1 tb w w' := by
  have HLow := Lib.hid h.low
  obtain ⟨v, h1, h2⟩ := h.ex
  have HOp := Lib.hid (heap_alloc_new w (.cells #[.string okey, .string oval, .bool false] 67))
  obtain ⟨a_0, a_1, a_2, _, _, _, _⟩ := blk3 HOp.out
  have HW : Hid (Gr w (w.alloc (.cells #[.string okey, .string oval, .bool false] 67))) := Lib.hid ((Gr.refl w).alloc _)
  have HAt := Lib.hid (at10_any (heap_alloc1 h1) (RdRw.gr (h2.rd encRow (by decide)) HW.out) (by omega) okey)
  have hRd : RdRw _ v R := (RdRw.gr (h2.rd encRow (by decide)) HW.out)
  have HRd := Lib.hid hRd
  have HOwn := Lib.hid h2
  have HT := Lib.hid (HW.out.blk h1)
  obtain ⟨k_0, g_0, l_0⟩ := blk1 HT.out
  obtain ⟨q, c, rfl⟩ := RdRw.form hRd
  have hlenv := fun W ty => len_rows (w := W) (q := q) (n := R.length) (c := c) (ty := ty)
  have hle := below_le okey R
  have HBel := Lib.hid (below_take okey R)
  have HRN : Hid (∀ x r, aboveR okey R = x :: r → (x.1.toList == okey.toList) = false → restR okey (aboveR okey R) = R.drop (belowR okey R).length) := Lib.hid (fun x r => rest_ne)
  have HRE : Hid (∀ x r, aboveR okey R = x :: r → (x.1.toList == okey.toList) = true → restR okey (aboveR okey R) = R.drop ((belowR okey R).length + 1)) := Lib.hid (fun x r => rest_eq)
  have HRZ : Hid (aboveR okey R = [] → restR okey (aboveR okey R) = R.drop (belowR okey R).length) := Lib.hid rest_nil
  have HAb : Hid (∀ hn : (belowR okey R).length < R.length, aboveR okey R = R[(belowR okey R).length] :: R.drop ((belowR okey R).length + 1)) := Lib.hid above_at
  have HAD := Lib.hid (above_drop okey R)
  clear h1 h2 h hRd
  generalize hW0 : w.alloc (.cells #[.string okey, .string oval, .bool false] 67) = W at *
  have HW0 := Lib.hid hW0
  clear hW0
  generalize hn0 : (belowR okey R).length = n at *
  clear hn0
  by_cases hn : n < R.length
  · obtain ⟨bk, of, cp, e1, q1, q2, c0, c1⟩ := RdRw.at HRd.out hn
    cases e1
    unfold maxLen at q2
    have hAb := HAb.out hn
    have HT1 : Hid (∀ W', Gr W W' → RdR (RE rowC) 2 W' (.slice (some ⟨bk, of, none⟩) n c) (R.take n)) := Lib.hid (fun W' hg => RdE.gr hg (RdE.take HRd.out n hle))
    cases hx : (R[n].1.toList == okey.toList) with
    | true =>
      have HRest := Lib.hid (HRE.out _ _ hAb hx)
      clear hAb HRE HRN HRZ HAb HAD
      have hwr : IntKind.i64.wrap ((n : Int) + 1) = (n : Int) + 1 := IntWalk.i64_in _ (by omega)
      by_cases hcm0 : c = n + 1
      · have hcm := Lib.hid hcm0
        clear hcm0
        have HD1 : Hid (∀ W', Gr W W' → RdR (RE rowC) 2 W' (.slice (some ⟨bk, of, none⟩) (R.length - (n + 1)) (c - (n + 1))) (R.drop (n + 1))) := Lib.hid (fun W' hg => .inl ⟨by rw [List.drop_eq_nil_iff]; have := hcm.out; omega, some ⟨bk, of, none⟩, _, by rw [show R.length - (n + 1) = 0 by have := hcm.out; omega], by unfold maxLen; omega, fun e => by cases e⟩)
        have HFin : Hid (one R ⟨okey, oval, false⟩ = (R.take n ++ [(okey, oval)]) ++ R.drop (n + 1)) := Lib.hid (by unfold one putR; rw [if_neg (by simp)]; simp only []; rw [HRest.out, HBel.out]; simp)
        go_enter Tryz.func58, Tryz.ntmps58
        go_wp2_with fail
        rw [HW0.out]
        refine HAt.out.mono ?_
        rintro e w1 ⟨rfl, rfl⟩
        go_wp2
        go_quiet (fail)
        go_wp2_with (first
          | (at_builtin; refine app_gen elRow encRow (N := W.heap.size) ((Gr.refl W).drewN _).size (by rfl) _ _ (by rfl) [] (R.take n) (by rfl) (by rfl) (OwnG.nil _ _) (HT1.out _ ((Gr.refl W).drewN _)) (by rw [List.length_nil, List.length_take]; omega) (by rw [List.length_nil, List.length_take]; omega) ?_; intro v1 w1 hown1 hgb1; have hg1 : Gr W w1 := ((Gr.refl W).drewN _).grown hgb1 (fun k hk => by simp [Value.ownBlock] at hk); rw [List.nil_append] at hown1; have HO1 := Lib.hid hown1; obtain ⟨q1, c1, z1, rfl⟩ := slice_any hown1; clear hown1; obtain ⟨k1_0, g1_0, l1_0⟩ := blk1 (hg1.blk HT.out); obtain ⟨b_0, b_1, b_2, _, _, _, _⟩ := blk3 (hg1.blk HOp.out))
          | (at_builtin; refine app_gen elRow encRow (N := W.heap.size) (by have := hg1.size; simp; omega) (by rfl) _ _ (by rfl) (R.take n) [(okey, oval)] (by rfl) (by rfl) (HO1.out.gr ((Gr.refl _).alloc _)) (RdE.one encRow w1 94 (okey, oval) rfl rfl) (by rw [List.length_take, List.length_singleton]; omega) (by rw [List.length_take, List.length_singleton]; omega) ?_; intro v2 w2 hown2 hgb2; have hg2 : Gr W w2 := (hg1.alloc _).grown hgb2 (fun k hk => (World.ownsRow.lt HO1.out k hk).1); have HO2 := Lib.hid hown2; obtain ⟨q2, c2, z2, rfl⟩ := slice_any hown2; clear hown2; obtain ⟨k2_0, g2_0, l2_0⟩ := blk1 (hg2.blk HT.out))
          | (at_builtin; refine app_gen elRow encRow (N := W.heap.size) hg2.size (by rfl) _ _ (by rfl) (R.take n ++ [(okey, oval)]) (R.drop (n + 1)) (by rfl) (by simp [Act.eval, hcm.out]) HO2.out (HD1.out _ hg2) (by rw [List.length_drop, List.length_append, List.length_take, List.length_singleton]; omega) (by rw [List.length_drop, List.length_append, List.length_take, List.length_singleton]; omega) ?_; intro v3 w3 hown3 hgb3; have hg3 : Gr W w3 := hg2.grown hgb3 (fun k hk => (World.ownsRow.lt HO2.out k hk).1); have HO3 := Lib.hid hown3; obtain ⟨q3, c3, z3, rfl⟩ := slice_any hown3; clear hown3; obtain ⟨k3_0, g3_0, l3_0⟩ := blk1 (hg3.blk HT.out)))
        go_end0
        exact ⟨rfl, doc_end HW.out HT.out hN HLow.out hg3 (by rw [HFin.out]; exact HO3.out)⟩
      · have hcm := Lib.hid hcm0
        clear hcm0
        have HD1 : Hid (∀ W', Gr W W' → RdR (RE rowC) 2 W' (.slice (some ⟨bk, of + (n + 1) * 2, none⟩) (R.length - (n + 1)) (c - (n + 1))) (R.drop (n + 1))) := Lib.hid (fun W' hg => RdE.gr hg (RdE.drop HRd.out (n + 1) (by omega)))
        have HFin : Hid (one R ⟨okey, oval, false⟩ = (R.take n ++ [(okey, oval)]) ++ R.drop (n + 1)) := Lib.hid (by unfold one putR; rw [if_neg (by simp)]; simp only []; rw [HRest.out, HBel.out]; simp)
        go_enter Tryz.func58, Tryz.ntmps58
        go_wp2_with fail
        rw [HW0.out]
        refine HAt.out.mono ?_
        rintro e w1 ⟨rfl, rfl⟩
        go_wp2
        go_quiet (fail)
        go_wp2_with (first
          | (at_builtin; refine app_gen elRow encRow (N := W.heap.size) ((Gr.refl W).drewN _).size (by rfl) _ _ (by rfl) [] (R.take n) (by rfl) (by rfl) (OwnG.nil _ _) (HT1.out _ ((Gr.refl W).drewN _)) (by rw [List.length_nil, List.length_take]; omega) (by rw [List.length_nil, List.length_take]; omega) ?_; intro v1 w1 hown1 hgb1; have hg1 : Gr W w1 := ((Gr.refl W).drewN _).grown hgb1 (fun k hk => by simp [Value.ownBlock] at hk); rw [List.nil_append] at hown1; have HO1 := Lib.hid hown1; obtain ⟨q1, c1, z1, rfl⟩ := slice_any hown1; clear hown1; obtain ⟨k1_0, g1_0, l1_0⟩ := blk1 (hg1.blk HT.out); obtain ⟨b_0, b_1, b_2, _, _, _, _⟩ := blk3 (hg1.blk HOp.out))
          | (at_builtin; refine app_gen elRow encRow (N := W.heap.size) (by have := hg1.size; simp; omega) (by rfl) _ _ (by rfl) (R.take n) [(okey, oval)] (by rfl) (by rfl) (HO1.out.gr ((Gr.refl _).alloc _)) (RdE.one encRow w1 94 (okey, oval) rfl rfl) (by rw [List.length_take, List.length_singleton]; omega) (by rw [List.length_take, List.length_singleton]; omega) ?_; intro v2 w2 hown2 hgb2; have hg2 : Gr W w2 := (hg1.alloc _).grown hgb2 (fun k hk => (World.ownsRow.lt HO1.out k hk).1); have HO2 := Lib.hid hown2; obtain ⟨q2, c2, z2, rfl⟩ := slice_any hown2; clear hown2; obtain ⟨k2_0, g2_0, l2_0⟩ := blk1 (hg2.blk HT.out))
          | (at_builtin; refine app_gen elRow encRow (N := W.heap.size) hg2.size (by rfl) _ _ (by rfl) (R.take n ++ [(okey, oval)]) (R.drop (n + 1)) (by rfl) (by simp [Act.eval, hcm.out]) HO2.out (HD1.out _ hg2) (by rw [List.length_drop, List.length_append, List.length_take, List.length_singleton]; omega) (by rw [List.length_drop, List.length_append, List.length_take, List.length_singleton]; omega) ?_; intro v3 w3 hown3 hgb3; have hg3 : Gr W w3 := hg2.grown hgb3 (fun k hk => (World.ownsRow.lt HO2.out k hk).1); have HO3 := Lib.hid hown3; obtain ⟨q3, c3, z3, rfl⟩ := slice_any hown3; clear hown3; obtain ⟨k3_0, g3_0, l3_0⟩ := blk1 (hg3.blk HT.out)))
        go_end0
        exact ⟨rfl, doc_end HW.out HT.out hN HLow.out hg3 (by rw [HFin.out]; exact HO3.out)⟩
    | false =>
      have HRest := Lib.hid (HRN.out _ _ hAb hx)
      have HD1 : Hid (∀ W', Gr W W' → RdR (RE rowC) 2 W' (.slice (some ⟨bk, of + n * 2, none⟩) (R.length - n) (c - n)) (R.drop n)) := Lib.hid (fun W' hg => RdE.gr hg (RdE.drop HRd.out n (by omega)))
      clear hAb HRE HRN HRZ HAb HAD
      have HFin : Hid (one R ⟨okey, oval, false⟩ = (R.take n ++ [(okey, oval)]) ++ R.drop n) := Lib.hid (by unfold one putR; rw [if_neg (by simp)]; simp only []; rw [HRest.out, HBel.out]; simp)
      go_enter Tryz.func58, Tryz.ntmps58
      go_wp2_with fail
      rw [HW0.out]
      refine HAt.out.mono ?_
      rintro e w1 ⟨rfl, rfl⟩
      go_wp2
      go_quiet (fail)
      go_wp2_with (first
        | (at_builtin; refine app_gen elRow encRow (N := W.heap.size) ((Gr.refl W).drewN _).size (by rfl) _ _ (by rfl) [] (R.take n) (by rfl) (by rfl) (OwnG.nil _ _) (HT1.out _ ((Gr.refl W).drewN _)) (by rw [List.length_nil, List.length_take]; omega) (by rw [List.length_nil, List.length_take]; omega) ?_; intro v1 w1 hown1 hgb1; have hg1 : Gr W w1 := ((Gr.refl W).drewN _).grown hgb1 (fun k hk => by simp [Value.ownBlock] at hk); rw [List.nil_append] at hown1; have HO1 := Lib.hid hown1; obtain ⟨q1, c1, z1, rfl⟩ := slice_any hown1; clear hown1; obtain ⟨k1_0, g1_0, l1_0⟩ := blk1 (hg1.blk HT.out); obtain ⟨b_0, b_1, b_2, _, _, _, _⟩ := blk3 (hg1.blk HOp.out))
        | (at_builtin; refine app_gen elRow encRow (N := W.heap.size) (by have := hg1.size; simp; omega) (by rfl) _ _ (by rfl) (R.take n) [(okey, oval)] (by rfl) (by rfl) (HO1.out.gr ((Gr.refl _).alloc _)) (RdE.one encRow w1 94 (okey, oval) rfl rfl) (by rw [List.length_take, List.length_singleton]; omega) (by rw [List.length_take, List.length_singleton]; omega) ?_; intro v2 w2 hown2 hgb2; have hg2 : Gr W w2 := (hg1.alloc _).grown hgb2 (fun k hk => (World.ownsRow.lt HO1.out k hk).1); have HO2 := Lib.hid hown2; obtain ⟨q2, c2, z2, rfl⟩ := slice_any hown2; clear hown2; obtain ⟨k2_0, g2_0, l2_0⟩ := blk1 (hg2.blk HT.out))
        | (at_builtin; refine app_gen elRow encRow (N := W.heap.size) hg2.size (by rfl) _ _ (by rfl) (R.take n ++ [(okey, oval)]) (R.drop n) (by rfl) (by rfl) HO2.out (HD1.out _ hg2) (by rw [List.length_drop, List.length_append, List.length_take, List.length_singleton]; omega) (by rw [List.length_drop, List.length_append, List.length_take, List.length_singleton]; omega) ?_; intro v3 w3 hown3 hgb3; have hg3 : Gr W w3 := hg2.grown hgb3 (fun k hk => (World.ownsRow.lt HO2.out k hk).1); have HO3 := Lib.hid hown3; obtain ⟨q3, c3, z3, rfl⟩ := slice_any hown3; clear hown3; obtain ⟨k3_0, g3_0, l3_0⟩ := blk1 (hg3.blk HT.out)))
      go_end0
      exact ⟨rfl, doc_end HW.out HT.out hN HLow.out hg3 (by rw [HFin.out]; exact HO3.out)⟩
  · obtain rfl : n = R.length := by omega
    have hlt : decide ((R.length : Int) < (R.length : Int)) = false := by simp
    have HRest : Hid (restR okey (aboveR okey R) = R.drop R.length) := Lib.hid (HRZ.out (by rw [← HAD.out]; simp))
    have hc2 : R.length ≤ c ∧ c ≤ maxLen := by
      rcases HRd.out with ⟨h1, q', c', h2, h3, h4⟩ | ⟨blk, off, cap, h1, h2, h3, h4, _⟩
      · injection h2 with i1 i2 i3; subst i3; rw [h1]; exact ⟨Nat.zero_le _, h3⟩
      · injection h1 with i1 i2 i3; subst i3; exact ⟨h3, h4⟩
    unfold maxLen at hc2
    obtain ⟨hc2, hc3⟩ := hc2
    have HT1 : Hid (∀ W', Gr W W' → RdR (RE rowC) 2 W' (.slice q R.length c) (R.take R.length)) := Lib.hid (fun W' hg => RdE.gr hg (RdE.take HRd.out R.length (Nat.le_refl _)))
    clear HRE HRN HRZ HAb HAD
    cases q with
    | none =>
      have hc0 : c = 0 ∧ R = [] := by
        rcases HRd.out with ⟨h1, q', c', h2, h3, h4⟩ | ⟨blk, off, cap, h1, h2, h3, h4, _⟩
        · injection h2 with i1 i2 i3; subst i1 i3; exact ⟨h4 rfl, h1⟩
        · injection h1 with i1; cases i1
      obtain ⟨rfl, rfl⟩ := hc0
      have HT1 : Hid (∀ W', Gr W W' → RdR (RE rowC) 2 W' (.slice none 0 0) ([] : List Rw)) := Lib.hid (fun W' hg => .inl ⟨rfl, none, 0, rfl, by simp, fun _ => rfl⟩)
      have HD1 : Hid (∀ W', Gr W W' → RdR (RE rowC) 2 W' (.slice none 0 0) ([] : List Rw)) := Lib.hid (fun W' hg => .inl ⟨rfl, none, 0, rfl, by simp, fun _ => rfl⟩)
      simp only [List.length_nil, Int.natCast_zero] at *
      have HFin : Hid (one [] ⟨okey, oval, false⟩ = (([] : List Rw) ++ [(okey, oval)]) ++ ([] : List Rw)) := Lib.hid rfl
      go_enter Tryz.func58, Tryz.ntmps58
      go_wp2_with fail
      rw [HW0.out]
      refine HAt.out.mono ?_
      rintro e w1 ⟨rfl, rfl⟩
      go_wp2
      go_quiet (fail)
      go_wp2_with (first
        | (at_builtin; refine app_gen elRow encRow (N := W.heap.size) ((Gr.refl W).drewN _).size (by rfl) _ _ (by rfl) [] ([]) (by rfl) (by rfl) (OwnG.nil _ _) (HT1.out _ ((Gr.refl W).drewN _)) (by simp) (by simp) ?_; intro v1 w1 hown1 hgb1; have hg1 : Gr W w1 := ((Gr.refl W).drewN _).grown hgb1 (fun k hk => by simp [Value.ownBlock] at hk); rw [List.nil_append] at hown1; have HO1 := Lib.hid hown1; obtain ⟨q1, c1, z1, rfl⟩ := slice_any hown1; clear hown1; obtain ⟨k1_0, g1_0, l1_0⟩ := blk1 (hg1.blk HT.out); obtain ⟨b_0, b_1, b_2, _, _, _, _⟩ := blk3 (hg1.blk HOp.out))
        | (at_builtin; refine app_gen elRow encRow (N := W.heap.size) (by have := hg1.size; simp; omega) (by rfl) _ _ (by rfl) ([]) [(okey, oval)] (by rfl) (by rfl) (HO1.out.gr ((Gr.refl _).alloc _)) (RdE.one encRow w1 94 (okey, oval) rfl rfl) (by simp) (by simp) ?_; intro v2 w2 hown2 hgb2; have hg2 : Gr W w2 := (hg1.alloc _).grown hgb2 (fun k hk => (World.ownsRow.lt HO1.out k hk).1); have HO2 := Lib.hid hown2; obtain ⟨q2, c2, z2, rfl⟩ := slice_any hown2; clear hown2; obtain ⟨k2_0, g2_0, l2_0⟩ := blk1 (hg2.blk HT.out))
        | (at_builtin; refine app_gen elRow encRow (N := W.heap.size) hg2.size (by rfl) _ _ (by rfl) ([] ++ [(okey, oval)]) ([]) (by rfl) (by rfl) HO2.out (HD1.out _ hg2) (by simp) (by simp) ?_; intro v3 w3 hown3 hgb3; have hg3 : Gr W w3 := hg2.grown hgb3 (fun k hk => (World.ownsRow.lt HO2.out k hk).1); have HO3 := Lib.hid hown3; obtain ⟨q3, c3, z3, rfl⟩ := slice_any hown3; clear hown3; obtain ⟨k3_0, g3_0, l3_0⟩ := blk1 (hg3.blk HT.out)))
      go_end0
      exact ⟨rfl, doc_end HW.out HT.out hN HLow.out hg3 (by rw [HFin.out]; exact HO3.out)⟩
    | some a =>
      obtain ⟨bk, of, th⟩ := a
      obtain rfl : th = none := by
        rcases HOwn.out.2 with ⟨h, _⟩ | ⟨g, cap, cur, h, _⟩
        · injection h with i1; cases i1
        · injection h with i1; injection i1 with i1; injection i1
      by_cases hcm0 : c = R.length
      · have hcm := Lib.hid hcm0
        clear hcm0
        have HD1 : Hid (∀ W', Gr W W' → RdR (RE rowC) 2 W' (.slice (some ⟨bk, of, none⟩) (R.length - R.length) (c - R.length)) (R.drop R.length)) := Lib.hid (fun W' hg => .inl ⟨by rw [List.drop_eq_nil_iff]; have := hcm.out; omega, some ⟨bk, of, none⟩, _, by rw [Nat.sub_self], by unfold maxLen; omega, fun e => by cases e⟩)
        have HFin : Hid (one R ⟨okey, oval, false⟩ = (R.take R.length ++ [(okey, oval)]) ++ R.drop R.length) := Lib.hid (by unfold one putR; rw [if_neg (by simp)]; simp only []; rw [HRest.out, HBel.out]; simp)
        go_enter Tryz.func58, Tryz.ntmps58
        go_wp2_with fail
        rw [HW0.out]
        refine HAt.out.mono ?_
        rintro e w1 ⟨rfl, rfl⟩
        go_wp2
        go_quiet (fail)
        go_wp2_with (first
          | (at_builtin; refine app_gen elRow encRow (N := W.heap.size) ((Gr.refl W).drewN _).size (by rfl) _ _ (by rfl) [] (R.take R.length) (by rfl) (by rfl) (OwnG.nil _ _) (HT1.out _ ((Gr.refl W).drewN _)) (by rw [List.length_nil, List.length_take]; omega) (by rw [List.length_nil, List.length_take]; omega) ?_; intro v1 w1 hown1 hgb1; have hg1 : Gr W w1 := ((Gr.refl W).drewN _).grown hgb1 (fun k hk => by simp [Value.ownBlock] at hk); rw [List.nil_append] at hown1; have HO1 := Lib.hid hown1; obtain ⟨q1, c1, z1, rfl⟩ := slice_any hown1; clear hown1; obtain ⟨k1_0, g1_0, l1_0⟩ := blk1 (hg1.blk HT.out); obtain ⟨b_0, b_1, b_2, _, _, _, _⟩ := blk3 (hg1.blk HOp.out))
          | (at_builtin; refine app_gen elRow encRow (N := W.heap.size) (by have := hg1.size; simp; omega) (by rfl) _ _ (by rfl) (R.take R.length) [(okey, oval)] (by rfl) (by rfl) (HO1.out.gr ((Gr.refl _).alloc _)) (RdE.one encRow w1 94 (okey, oval) rfl rfl) (by rw [List.length_take, List.length_singleton]; omega) (by rw [List.length_take, List.length_singleton]; omega) ?_; intro v2 w2 hown2 hgb2; have hg2 : Gr W w2 := (hg1.alloc _).grown hgb2 (fun k hk => (World.ownsRow.lt HO1.out k hk).1); have HO2 := Lib.hid hown2; obtain ⟨q2, c2, z2, rfl⟩ := slice_any hown2; clear hown2; obtain ⟨k2_0, g2_0, l2_0⟩ := blk1 (hg2.blk HT.out))
          | (at_builtin; refine app_gen elRow encRow (N := W.heap.size) hg2.size (by rfl) _ _ (by rfl) (R.take R.length ++ [(okey, oval)]) (R.drop R.length) (by rfl) (by simp [Act.eval, hcm.out]) HO2.out (HD1.out _ hg2) (by rw [List.length_drop, List.length_append, List.length_take, List.length_singleton]; omega) (by rw [List.length_drop, List.length_append, List.length_take, List.length_singleton]; omega) ?_; intro v3 w3 hown3 hgb3; have hg3 : Gr W w3 := hg2.grown hgb3 (fun k hk => (World.ownsRow.lt HO2.out k hk).1); have HO3 := Lib.hid hown3; obtain ⟨q3, c3, z3, rfl⟩ := slice_any hown3; clear hown3; obtain ⟨k3_0, g3_0, l3_0⟩ := blk1 (hg3.blk HT.out)))
        go_end0
        exact ⟨rfl, doc_end HW.out HT.out hN HLow.out hg3 (by rw [HFin.out]; exact HO3.out)⟩
      · have hcm := Lib.hid hcm0
        clear hcm0
        have HD1 : Hid (∀ W', Gr W W' → RdR (RE rowC) 2 W' (.slice (some ⟨bk, of + R.length * 2, none⟩) (R.length - R.length) (c - R.length)) (R.drop R.length)) := Lib.hid (fun W' hg => RdE.gr hg (RdE.drop HRd.out R.length (Nat.le_refl _)))
        have HFin : Hid (one R ⟨okey, oval, false⟩ = (R.take R.length ++ [(okey, oval)]) ++ R.drop R.length) := Lib.hid (by unfold one putR; rw [if_neg (by simp)]; simp only []; rw [HRest.out, HBel.out]; simp)
        go_enter Tryz.func58, Tryz.ntmps58
        go_wp2_with fail
        rw [HW0.out]
        refine HAt.out.mono ?_
        rintro e w1 ⟨rfl, rfl⟩
        go_wp2
        go_quiet (fail)
        go_wp2_with (first
          | (at_builtin; refine app_gen elRow encRow (N := W.heap.size) ((Gr.refl W).drewN _).size (by rfl) _ _ (by rfl) [] (R.take R.length) (by rfl) (by rfl) (OwnG.nil _ _) (HT1.out _ ((Gr.refl W).drewN _)) (by rw [List.length_nil, List.length_take]; omega) (by rw [List.length_nil, List.length_take]; omega) ?_; intro v1 w1 hown1 hgb1; have hg1 : Gr W w1 := ((Gr.refl W).drewN _).grown hgb1 (fun k hk => by simp [Value.ownBlock] at hk); rw [List.nil_append] at hown1; have HO1 := Lib.hid hown1; obtain ⟨q1, c1, z1, rfl⟩ := slice_any hown1; clear hown1; obtain ⟨k1_0, g1_0, l1_0⟩ := blk1 (hg1.blk HT.out); obtain ⟨b_0, b_1, b_2, _, _, _, _⟩ := blk3 (hg1.blk HOp.out))
          | (at_builtin; refine app_gen elRow encRow (N := W.heap.size) (by have := hg1.size; simp; omega) (by rfl) _ _ (by rfl) (R.take R.length) [(okey, oval)] (by rfl) (by rfl) (HO1.out.gr ((Gr.refl _).alloc _)) (RdE.one encRow w1 94 (okey, oval) rfl rfl) (by rw [List.length_take, List.length_singleton]; omega) (by rw [List.length_take, List.length_singleton]; omega) ?_; intro v2 w2 hown2 hgb2; have hg2 : Gr W w2 := (hg1.alloc _).grown hgb2 (fun k hk => (World.ownsRow.lt HO1.out k hk).1); have HO2 := Lib.hid hown2; obtain ⟨q2, c2, z2, rfl⟩ := slice_any hown2; clear hown2; obtain ⟨k2_0, g2_0, l2_0⟩ := blk1 (hg2.blk HT.out))
          | (at_builtin; refine app_gen elRow encRow (N := W.heap.size) hg2.size (by rfl) _ _ (by rfl) (R.take R.length ++ [(okey, oval)]) (R.drop R.length) (by rfl) (by simp [Act.eval, hcm.out]) HO2.out (HD1.out _ hg2) (by rw [List.length_drop, List.length_append, List.length_take, List.length_singleton]; omega) (by rw [List.length_drop, List.length_append, List.length_take, List.length_singleton]; omega) ?_; intro v3 w3 hown3 hgb3; have hg3 : Gr W w3 := hg2.grown hgb3 (fun k hk => (World.ownsRow.lt HO2.out k hk).1); have HO3 := Lib.hid hown3; obtain ⟨q3, c3, z3, rfl⟩ := slice_any hown3; clear hown3; obtain ⟨k3_0, g3_0, l3_0⟩ := blk1 (hg3.blk HT.out)))
        go_end0
        exact ⟨rfl, doc_end HW.out HT.out hN HLow.out hg3 (by rw [HFin.out]; exact HO3.out)⟩
end Go.Proofs.YthgecojbggoniaaGreatDoor
