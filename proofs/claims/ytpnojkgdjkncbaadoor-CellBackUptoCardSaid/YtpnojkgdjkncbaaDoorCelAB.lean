/- Layer 11: the statement on intents. -/
import Derived.Test.YtpnojkgdjkncbaaDoorCelAA
import Derived.Test.YtpnojkgdjkncbaaDoorCelV
import Derived.Test.YtpnojkgdjkncbaaDoorCelW
import Derived.Test.YtpnojkgdjkncbaaDoorCelL
namespace Go.Proofs.YtpnojkgdjkncbaaDoor
open Go.RowKit
set_option maxRecDepth 100000
set_option linter.unusedVariables false
set_option linter.unusedSimpArgs false

theorem okE_two (b : Bool) : (okE b == 2) = !b := by cases b <;> rfl

set_option maxHeartbeats 8000000 in
theorem cellIntents_walk {w : World} (x y : Itt) {vx vy : Value} (hx : RdC w vx x.l) (hy : RdC w vy y.l) (hlx : x.l.length ≤ 1048576) (hly : y.l.length ≤ 1048576) (hw : Sh w) :
    Calls Tryd.prog 5 #[.agg #[.int .i64 x.id, .int .i64 x.epoch, .int .i64 x.prio, .string x.anchor, .int .i64 x.sw, .int .i64 x.sl, .int .i64 x.bw, .int .i64 x.bl, vx], .agg #[.int .i64 y.id, .int .i64 y.epoch, .int .i64 y.prio, .string y.anchor, .int .i64 y.sw, .int .i64 y.sl, .int .i64 y.bw, .int .i64 y.bl, vy]] w fun e w' => e = .returned (.bool true) ∧ Gr w w' := by
  have HX := Lib.hid hx
  have HY := Lib.hid hy
  have HXX := Lib.hid (fun (u : World) (v1 : Value) (h1 : RdC u v1 x.l) (h2 : RdC u vx x.l) => by
    have := cellSame_any x x h1 h2 (by omega)
    rwa [eqItt_self] at this)
  have HXR := Lib.hid (fun (u : World) (v1 : Value) (h1 : RdC u v1 x.l) (h2 : RdC u vx x.l) => by
    have := refSame_any x x h1 h2 (by omega)
    rwa [eqItt_self] at this)
  have hb1 := heap_alloc_mono (heap_alloc_new w (.cells #[.int .i64 x.id, .int .i64 x.epoch, .int .i64 x.prio, .string x.anchor, .int .i64 x.sw, .int .i64 x.sl, .int .i64 x.bw, .int .i64 x.bl, vx] 39)) (.cells #[.int .i64 y.id, .int .i64 y.epoch, .int .i64 y.prio, .string y.anchor, .int .i64 y.sw, .int .i64 y.sl, .int .i64 y.bw, .int .i64 y.bl, vy] 39)
  have hb2 := heap_newn (w := w.alloc (.cells #[.int .i64 x.id, .int .i64 x.epoch, .int .i64 x.prio, .string x.anchor, .int .i64 x.sw, .int .i64 x.sl, .int .i64 x.bw, .int .i64 x.bl, vx] 39)) (n := w.heap.size + 1) (o := .cells #[.int .i64 y.id, .int .i64 y.epoch, .int .i64 y.prio, .string y.anchor, .int .i64 y.sw, .int .i64 y.sl, .int .i64 y.bw, .int .i64 y.bl, vy] 39) (by simp)
  have HB1 := Lib.hid hb1
  have HB2 := Lib.hid hb2
  obtain ⟨ka_0, ka_1, ka_2, ka_3, ka_4, ka_5, ka_6, ka_7, ka_8, ga_0, ga_1, ga_2, ga_3, ga_4, ga_5, ga_6, ga_7, ga_8, la_0⟩ := blk9 hb1
  clear hb1 hb2 hx hy
  have hg0 : Gr w ((w.alloc (.cells #[.int .i64 x.id, .int .i64 x.epoch, .int .i64 x.prio, .string x.anchor, .int .i64 x.sw, .int .i64 x.sl, .int .i64 x.bw, .int .i64 x.bl, vx] 39)).alloc (.cells #[.int .i64 y.id, .int .i64 y.epoch, .int .i64 y.prio, .string y.anchor, .int .i64 y.sw, .int .i64 y.sl, .int .i64 y.bw, .int .i64 y.bl, vy] 39)) := (by repeat (first | (with_reducible exact Gr.refl _) | (with_reducible assumption) | (with_reducible refine Gr.alloc ?_ _) | (with_reducible refine Gr.drew ?_) | (with_reducible refine Gr.drewN ?_ _) | (with_reducible refine Gr.trans ?_ (by assumption)) | (with_reducible refine Gr.setCell ?_ (by first | exact Nat.le_refl _ | omega | (simp; done) | (simp; omega)) _)))
  have HMay := Lib.hid (fun (u : World) (hg : Gr w u) => mayIntent_any x (HX.out.gr hg) (by omega))
  have HRef := Lib.hid (fun (u : World) (hg : Gr w u) => refIntent_any x (HX.out.gr hg) (by omega))
  have HChk := Lib.hid (fun (u : World) (v1 : Value) (h1 : RdC u v1 x.l) => checkIntent_any x h1 (by omega))
  have HCel := Lib.hid (fun (u : World) (v1 : Value) (h1 : RdC u v1 x.l) => cellIntent_any x h1 (by omega))
  cases hok : ittOk x <;>
  · rw [hok] at HMay HRef HChk HCel
    clear hok
    go_enter Tryd.func5, Tryd.ntmps5
    go_wp2_with fail
    refine (copyIntent_any x (HX.out.gr hg0) (by omega)).mono ?_
    rintro e w1 ⟨v1, rfl, hrd1, hg1⟩
    have HIn := Lib.hid hrd1
    obtain ⟨q1, c1, hv1⟩ := hrd1.form
    subst hv1
    clear hrd1
    have hIn0 := heap_alloc_new w1 (.cells #[.int .i64 x.id, .int .i64 x.epoch, .int .i64 x.prio, .string x.anchor, .int .i64 x.sw, .int .i64 x.sl, .int .i64 x.bw, .int .i64 x.bl, (.slice q1 x.l.length c1)] 39)
    have HI0 := Lib.hid hIn0
    obtain ⟨kc_0, kc_1, kc_2, kc_3, kc_4, kc_5, kc_6, kc_7, kc_8, gc_0, gc_1, gc_2, gc_3, gc_4, gc_5, gc_6, gc_7, gc_8, lc_0⟩ := blk9 hIn0
    clear hIn0 ka_0 ka_1 ka_2 ka_3 ka_4 ka_5 ka_6 ka_7 ka_8 ga_0 ga_1 ga_2 ga_3 ga_4 ga_5 ga_6 ga_7 ga_8 la_0
    go_wp2_with fail
    refine (HCel.out _ _ (RdC.gr HIn.out ((Gr.refl w1).alloc _))).mono ?_
    rintro e w2 ⟨rfl, hg2⟩
    have hgw2 : Gr w w2 := hg0.trans (hg1.trans (((Gr.refl w1).alloc _).trans hg2))
    obtain ⟨ka_0, ka_1, ka_2, ka_3, ka_4, ka_5, ka_6, ka_7, ka_8, ga_0, ga_1, ga_2, ga_3, ga_4, ga_5, ga_6, ga_7, ga_8, la_0⟩ := blk9 (hg2.blk (heap_alloc_mono (hg1.blk HB1.out) _))
    clear kc_0 kc_1 kc_2 kc_3 kc_4 kc_5 kc_6 kc_7 kc_8 gc_0 gc_1 gc_2 gc_3 gc_4 gc_5 gc_6 gc_7 gc_8 lc_0
    go_wp2_with fail
    refine (HRef.out _ hgw2).mono ?_
    rintro e w3 ⟨rfl, hg3⟩
    obtain ⟨kc_0, kc_1, kc_2, kc_3, kc_4, kc_5, kc_6, kc_7, kc_8, gc_0, gc_1, gc_2, gc_3, gc_4, gc_5, gc_6, gc_7, gc_8, lc_0⟩ := blk9 (hg3.blk (hg2.blk HI0.out))
    clear ka_0 ka_1 ka_2 ka_3 ka_4 ka_5 ka_6 ka_7 ka_8 ga_0 ga_1 ga_2 ga_3 ga_4 ga_5 ga_6 ga_7 ga_8 la_0
    go_wp2_with fail
    refine (HChk.out _ _ (RdC.gr HIn.out ((((Gr.refl w1).alloc _).trans hg2).trans hg3))).mono ?_
    rintro e w4 ⟨rfl, hg4⟩
    clear kc_0 kc_1 kc_2 kc_3 kc_4 kc_5 kc_6 kc_7 kc_8 gc_0 gc_1 gc_2 gc_3 gc_4 gc_5 gc_6 gc_7 gc_8 lc_0
    have hgR : Gr w w4.drew := (hgw2.trans (hg3.trans hg4)).trans (Gr.drew (Gr.refl w4))
    have hgIR : Gr w1 w4.drew := (((((Gr.refl w1).alloc _).trans hg2).trans hg3).trans hg4).trans (Gr.drew (Gr.refl w4))
    obtain ⟨ka_0, ka_1, ka_2, ka_3, ka_4, ka_5, ka_6, ka_7, ka_8, ga_0, ga_1, ga_2, ga_3, ga_4, ga_5, ga_6, ga_7, ga_8, la_0⟩ := blk9 (heap_drew (hg4.blk (hg3.blk (hg2.blk (heap_alloc_mono (hg1.blk HB1.out) _)))))
    obtain ⟨kb_0, kb_1, kb_2, kb_3, kb_4, kb_5, kb_6, kb_7, kb_8, gb_0, gb_1, gb_2, gb_3, gb_4, gb_5, gb_6, gb_7, gb_8, lb_0⟩ := blk9 (heap_drew (hg4.blk (hg3.blk (hg2.blk (heap_alloc_mono (hg1.blk HB2.out) _)))))
    obtain ⟨kc_0, kc_1, kc_2, kc_3, kc_4, kc_5, kc_6, kc_7, kc_8, gc_0, gc_1, gc_2, gc_3, gc_4, gc_5, gc_6, gc_7, gc_8, lc_0⟩ := blk9 (heap_drew (hg4.blk (hg3.blk (hg2.blk HI0.out))))
    have F0_0 := cellRule ka_0
    have F0_1 := cellRule ka_1
    have F0_2 := cellRule ka_2
    have F0_3 := cellRule ka_3
    have F0_4 := cellRule ka_4
    have F0_5 := cellRule ka_5
    have F0_6 := cellRule ka_6
    have F0_7 := cellRule ka_7
    have F0_8 := cellRule ka_8
    have F1_0 := cellRule kb_0
    have F1_1 := cellRule kb_1
    have F1_2 := cellRule kb_2
    have F1_3 := cellRule kb_3
    have F1_4 := cellRule kb_4
    have F1_5 := cellRule kb_5
    have F1_6 := cellRule kb_6
    have F1_7 := cellRule kb_7
    have F1_8 := cellRule kb_8
    have F2_0 := cellRule kc_0
    have F2_1 := cellRule kc_1
    have F2_2 := cellRule kc_2
    have F2_3 := cellRule kc_3
    have F2_4 := cellRule kc_4
    have F2_5 := cellRule kc_5
    have F2_6 := cellRule kc_6
    have F2_7 := cellRule kc_7
    have F2_8 := cellRule kc_8
    clear ka_0 ka_1 ka_2 ka_3 ka_4 ka_5 ka_6 ka_7 ka_8 ga_0 ga_1 ga_2 ga_3 ga_4 ga_5 ga_6 ga_7 ga_8 la_0 kb_0 kb_1 kb_2 kb_3 kb_4 kb_5 kb_6 kb_7 kb_8 gb_0 gb_1 gb_2 gb_3 gb_4 gb_5 gb_6 gb_7 gb_8 lb_0 kc_0 kc_1 kc_2 kc_3 kc_4 kc_5 kc_6 kc_7 kc_8 gc_0 gc_1 gc_2 gc_3 gc_4 gc_5 gc_6 gc_7 gc_8 lc_0
    go_wp2_with fail
    refine wp_region_held_drew (S := fun w' => Gr w4.drew w') (by kernel_rfl) (Gr.refl _) (fun hHeld => ?_)
    try dsimp only at hHeld
    refine wpAnyH_take (i := 0) rfl (by kernel_rfl) (by kernel_rfl) (by kernel_rfl) (fun _ _ _ h => h) (Or.inl ⟨by rfl, by intro w hSw; (try dsimp only at hSw); go_simp; (try with_reducible rfl)⟩) (by assumption) ?_; (try simp only [Act.put, List.setIfInBounds_toArray, List.set_cons_zero, List.set_cons_succ, List.getElem_toArray, List.getElem_cons_zero, List.getElem_cons_succ])
    refine wpAnyH_take (i := 1) rfl (by kernel_rfl) (by kernel_rfl) (by kernel_rfl) (fun _ _ _ h => h) (Or.inl ⟨by rfl, by intro w hSw; (try dsimp only at hSw); go_simp; (try with_reducible rfl)⟩) (by assumption) ?_; (try simp only [Act.put, List.setIfInBounds_toArray, List.set_cons_zero, List.set_cons_succ, List.getElem_toArray, List.getElem_cons_zero, List.getElem_cons_succ])
    refine wpAnyH_take (i := 2) rfl (by kernel_rfl) (by kernel_rfl) (by kernel_rfl) (fun _ _ _ h => h) (Or.inl ⟨by rfl, by intro w hSw; (try dsimp only at hSw); go_simp; (try with_reducible rfl)⟩) (by assumption) ?_; (try simp only [Act.put, List.setIfInBounds_toArray, List.set_cons_zero, List.set_cons_succ, List.getElem_toArray, List.getElem_cons_zero, List.getElem_cons_succ])
    refine wpAnyH_take (i := 3) rfl (by kernel_rfl) (by kernel_rfl) (by kernel_rfl) (fun _ _ _ h => h) (Or.inl ⟨by rfl, by intro w hSw; (try dsimp only at hSw); go_simp; (try with_reducible rfl)⟩) (by assumption) ?_; (try simp only [Act.put, List.setIfInBounds_toArray, List.set_cons_zero, List.set_cons_succ, List.getElem_toArray, List.getElem_cons_zero, List.getElem_cons_succ])
    refine wpAnyH_take (i := 4) rfl (by kernel_rfl) (by kernel_rfl) (by kernel_rfl) (fun _ _ _ h => h) (Or.inl ⟨by rfl, by intro w hSw; (try dsimp only at hSw); go_simp; (try with_reducible rfl)⟩) (by assumption) ?_; (try simp only [Act.put, List.setIfInBounds_toArray, List.set_cons_zero, List.set_cons_succ, List.getElem_toArray, List.getElem_cons_zero, List.getElem_cons_succ])
    refine wpAnyH_take (i := 5) rfl (by kernel_rfl) (by kernel_rfl) (by kernel_rfl) (fun _ _ _ h => h) (Or.inl ⟨by rfl, by intro w hSw; (try dsimp only at hSw); go_simp; (try with_reducible rfl)⟩) (by assumption) ?_; (try simp only [Act.put, List.setIfInBounds_toArray, List.set_cons_zero, List.set_cons_succ, List.getElem_toArray, List.getElem_cons_zero, List.getElem_cons_succ])
    refine wpAnyH_take (i := 6) rfl (by kernel_rfl) (by kernel_rfl) (by kernel_rfl) (fun _ _ _ h => h) (Or.inl ⟨by rfl, by intro w hSw; (try dsimp only at hSw); go_simp; (try with_reducible rfl)⟩) (by assumption) ?_; (try simp only [Act.put, List.setIfInBounds_toArray, List.set_cons_zero, List.set_cons_succ, List.getElem_toArray, List.getElem_cons_zero, List.getElem_cons_succ])
    refine wpAnyH_take (i := 7) rfl (by kernel_rfl) (by kernel_rfl) (by kernel_rfl) (fun _ _ _ h => h) (Or.inl ⟨by rfl, by intro w hSw; (try dsimp only at hSw); go_simp; (try with_reducible rfl)⟩) (by assumption) ?_; (try simp only [Act.put, List.setIfInBounds_toArray, List.set_cons_zero, List.set_cons_succ, List.getElem_toArray, List.getElem_cons_zero, List.getElem_cons_succ])
    refine wpAnyH_take (i := 8) rfl (by kernel_rfl) (by kernel_rfl) (by kernel_rfl) (fun _ _ _ h => h) (Or.inl ⟨by rfl, by intro w hSw; (try dsimp only at hSw); go_simp; (try with_reducible rfl)⟩) (by assumption) ?_; (try simp only [Act.put, List.setIfInBounds_toArray, List.set_cons_zero, List.set_cons_succ, List.getElem_toArray, List.getElem_cons_zero, List.getElem_cons_succ])
    refine wpAnyH_take (i := 9) rfl (by kernel_rfl) (by kernel_rfl) (by kernel_rfl) (fun _ _ _ h => h) (Or.inl ⟨by rfl, by intro w hSw; (try dsimp only at hSw); go_simp; (try with_reducible rfl)⟩) (by assumption) ?_; (try simp only [Act.put, List.setIfInBounds_toArray, List.set_cons_zero, List.set_cons_succ, List.getElem_toArray, List.getElem_cons_zero, List.getElem_cons_succ])
    refine wpAnyH_take (i := 10) rfl (by kernel_rfl) (by kernel_rfl) (by kernel_rfl) (fun _ _ _ h => h) (Or.inl ⟨by rfl, by intro w hSw; (try dsimp only at hSw); go_simp; (try with_reducible rfl)⟩) (by assumption) ?_; (try simp only [Act.put, List.setIfInBounds_toArray, List.set_cons_zero, List.set_cons_succ, List.getElem_toArray, List.getElem_cons_zero, List.getElem_cons_succ])
    refine wpAnyH_ready (rs := [11]) (by kernel_rfl) (by simp) ?_
    refine AllReadyH.cons rfl (fun K hK => ?_) AllReadyH.nil
    go_simp
    go_wp2_with (go_at_call 26; refine (HMay.out _ hgR).mono ?_; rintro e u1 ⟨rfl, hu1⟩)
    refine hK.out _ _ hu1 (fun _ => wpAnyH_turn hu1 (fun hHeld => ?_))
    clear hK K
    try dsimp only at hHeld
    have F0_0' := Rule.turn F0_0 hu1
    have F0_1' := Rule.turn F0_1 hu1
    have F0_2' := Rule.turn F0_2 hu1
    have F0_3' := Rule.turn F0_3 hu1
    have F0_4' := Rule.turn F0_4 hu1
    have F0_5' := Rule.turn F0_5 hu1
    have F0_6' := Rule.turn F0_6 hu1
    have F0_7' := Rule.turn F0_7 hu1
    have F0_8' := Rule.turn F0_8 hu1
    have F1_0' := Rule.turn F1_0 hu1
    have F1_1' := Rule.turn F1_1 hu1
    have F1_2' := Rule.turn F1_2 hu1
    have F1_3' := Rule.turn F1_3 hu1
    have F1_4' := Rule.turn F1_4 hu1
    have F1_5' := Rule.turn F1_5 hu1
    have F1_6' := Rule.turn F1_6 hu1
    have F1_7' := Rule.turn F1_7 hu1
    have F1_8' := Rule.turn F1_8 hu1
    have F2_0' := Rule.turn F2_0 hu1
    have F2_1' := Rule.turn F2_1 hu1
    have F2_2' := Rule.turn F2_2 hu1
    have F2_3' := Rule.turn F2_3 hu1
    have F2_4' := Rule.turn F2_4 hu1
    have F2_5' := Rule.turn F2_5 hu1
    have F2_6' := Rule.turn F2_6 hu1
    have F2_7' := Rule.turn F2_7 hu1
    have F2_8' := Rule.turn F2_8 hu1
    clear F0_0 F0_1 F0_2 F0_3 F0_4 F0_5 F0_6 F0_7 F0_8 F1_0 F1_1 F1_2 F1_3 F1_4 F1_5 F1_6 F1_7 F1_8 F2_0 F2_1 F2_2 F2_3 F2_4 F2_5 F2_6 F2_7 F2_8
    refine wpAnyH_take (i := 12) rfl (by kernel_rfl) (by kernel_rfl) (by kernel_rfl) (fun _ _ _ h => h) (Or.inl ⟨by rfl, by intro w hSw; (try dsimp only at hSw); go_simp; (try with_reducible rfl)⟩) (by assumption) ?_; (try simp only [Act.put, List.setIfInBounds_toArray, List.set_cons_zero, List.set_cons_succ, List.getElem_toArray, List.getElem_cons_zero, List.getElem_cons_succ])
    refine wpAnyH_take (i := 13) rfl (by kernel_rfl) (by kernel_rfl) (by kernel_rfl) (fun _ _ _ h => h) (Or.inl ⟨by rfl, by intro w hSw; (try dsimp only at hSw); go_simp; (try with_reducible rfl)⟩) (by assumption) ?_; (try simp only [Act.put, List.setIfInBounds_toArray, List.set_cons_zero, List.set_cons_succ, List.getElem_toArray, List.getElem_cons_zero, List.getElem_cons_succ])
    refine wpAnyH_take (i := 14) rfl (by kernel_rfl) (by kernel_rfl) (by kernel_rfl) (fun _ _ _ h => h) (Or.inl ⟨by rfl, by intro w hSw; (try dsimp only at hSw); go_simp; (try with_reducible rfl)⟩) (by assumption) ?_; (try simp only [Act.put, List.setIfInBounds_toArray, List.set_cons_zero, List.set_cons_succ, List.getElem_toArray, List.getElem_cons_zero, List.getElem_cons_succ])
    refine wpAnyH_take (i := 15) rfl (by kernel_rfl) (by kernel_rfl) (by kernel_rfl) (fun _ _ _ h => h) (Or.inl ⟨by rfl, by intro w hSw; (try dsimp only at hSw); go_simp; (try with_reducible rfl)⟩) (by assumption) ?_; (try simp only [Act.put, List.setIfInBounds_toArray, List.set_cons_zero, List.set_cons_succ, List.getElem_toArray, List.getElem_cons_zero, List.getElem_cons_succ])
    refine wpAnyH_take (i := 16) rfl (by kernel_rfl) (by kernel_rfl) (by kernel_rfl) (fun _ _ _ h => h) (Or.inl ⟨by rfl, by intro w hSw; (try dsimp only at hSw); go_simp; (try with_reducible rfl)⟩) (by assumption) ?_; (try simp only [Act.put, List.setIfInBounds_toArray, List.set_cons_zero, List.set_cons_succ, List.getElem_toArray, List.getElem_cons_zero, List.getElem_cons_succ])
    refine wpAnyH_take (i := 17) rfl (by kernel_rfl) (by kernel_rfl) (by kernel_rfl) (fun _ _ _ h => h) (Or.inl ⟨by rfl, by intro w hSw; (try dsimp only at hSw); go_simp; (try with_reducible rfl)⟩) (by assumption) ?_; (try simp only [Act.put, List.setIfInBounds_toArray, List.set_cons_zero, List.set_cons_succ, List.getElem_toArray, List.getElem_cons_zero, List.getElem_cons_succ])
    refine wpAnyH_take (i := 19) rfl (by kernel_rfl) (by kernel_rfl) (by kernel_rfl) (fun _ _ _ h => h) (Or.inl ⟨by rfl, by intro w hSw; (try dsimp only at hSw); go_simp; (try with_reducible rfl)⟩) (by assumption) ?_; (try simp only [Act.put, List.setIfInBounds_toArray, List.set_cons_zero, List.set_cons_succ, List.getElem_toArray, List.getElem_cons_zero, List.getElem_cons_succ])
    refine wpAnyH_take (i := 20) rfl (by kernel_rfl) (by kernel_rfl) (by kernel_rfl) (fun _ _ _ h => h) (Or.inl ⟨by rfl, by intro w hSw; (try dsimp only at hSw); go_simp; (try with_reducible rfl)⟩) (by assumption) ?_; (try simp only [Act.put, List.setIfInBounds_toArray, List.set_cons_zero, List.set_cons_succ, List.getElem_toArray, List.getElem_cons_zero, List.getElem_cons_succ])
    refine wpAnyH_ready (rs := [18]) (by kernel_rfl) (by simp) ?_
    refine AllReadyH.cons rfl (fun K hK => ?_) AllReadyH.nil
    go_simp
    go_wp2_with (go_at_call 27; refine (cellSame_any x y (RdC.gr HIn.out (hgIR.trans hu1)) (HY.out.gr (hgR.trans hu1)) (by omega)).mono ?_; rintro e u2 ⟨rfl, hu2⟩)
    refine hK.out _ _ hu2 (fun _ => wpAnyH_turn hu2 (fun hHeld => ?_))
    clear hK K
    try dsimp only at hHeld
    have F0_0'' := Rule.turn F0_0' hu2
    have F0_1'' := Rule.turn F0_1' hu2
    have F0_2'' := Rule.turn F0_2' hu2
    have F0_3'' := Rule.turn F0_3' hu2
    have F0_4'' := Rule.turn F0_4' hu2
    have F0_5'' := Rule.turn F0_5' hu2
    have F0_6'' := Rule.turn F0_6' hu2
    have F0_7'' := Rule.turn F0_7' hu2
    have F0_8'' := Rule.turn F0_8' hu2
    have F1_0'' := Rule.turn F1_0' hu2
    have F1_1'' := Rule.turn F1_1' hu2
    have F1_2'' := Rule.turn F1_2' hu2
    have F1_3'' := Rule.turn F1_3' hu2
    have F1_4'' := Rule.turn F1_4' hu2
    have F1_5'' := Rule.turn F1_5' hu2
    have F1_6'' := Rule.turn F1_6' hu2
    have F1_7'' := Rule.turn F1_7' hu2
    have F1_8'' := Rule.turn F1_8' hu2
    have F2_0'' := Rule.turn F2_0' hu2
    have F2_1'' := Rule.turn F2_1' hu2
    have F2_2'' := Rule.turn F2_2' hu2
    have F2_3'' := Rule.turn F2_3' hu2
    have F2_4'' := Rule.turn F2_4' hu2
    have F2_5'' := Rule.turn F2_5' hu2
    have F2_6'' := Rule.turn F2_6' hu2
    have F2_7'' := Rule.turn F2_7' hu2
    have F2_8'' := Rule.turn F2_8' hu2
    clear F0_0' F0_1' F0_2' F0_3' F0_4' F0_5' F0_6' F0_7' F0_8' F1_0' F1_1' F1_2' F1_3' F1_4' F1_5' F1_6' F1_7' F1_8' F2_0' F2_1' F2_2' F2_3' F2_4' F2_5' F2_6' F2_7' F2_8'
    refine wpAnyH_ready (rs := [21]) (by kernel_rfl) (by simp) ?_
    refine AllReadyH.cons rfl (fun K hK => ?_) AllReadyH.nil
    go_simp
    go_wp2_with (go_at_call 28; refine (refSame_any x y (HX.out.gr ((hgR.trans hu1).trans hu2)) (HY.out.gr ((hgR.trans hu1).trans hu2)) (by omega)).mono ?_; rintro e u3 ⟨rfl, hu3⟩)
    refine hK.out _ _ hu3 (fun _ => wpAnyH_turn hu3 (fun hHeld => ?_))
    clear hK K
    try dsimp only at hHeld
    have F0_0''' := Rule.turn F0_0'' hu3
    have F0_1''' := Rule.turn F0_1'' hu3
    have F0_2''' := Rule.turn F0_2'' hu3
    have F0_3''' := Rule.turn F0_3'' hu3
    have F0_4''' := Rule.turn F0_4'' hu3
    have F0_5''' := Rule.turn F0_5'' hu3
    have F0_6''' := Rule.turn F0_6'' hu3
    have F0_7''' := Rule.turn F0_7'' hu3
    have F0_8''' := Rule.turn F0_8'' hu3
    have F1_0''' := Rule.turn F1_0'' hu3
    have F1_1''' := Rule.turn F1_1'' hu3
    have F1_2''' := Rule.turn F1_2'' hu3
    have F1_3''' := Rule.turn F1_3'' hu3
    have F1_4''' := Rule.turn F1_4'' hu3
    have F1_5''' := Rule.turn F1_5'' hu3
    have F1_6''' := Rule.turn F1_6'' hu3
    have F1_7''' := Rule.turn F1_7'' hu3
    have F1_8''' := Rule.turn F1_8'' hu3
    have F2_0''' := Rule.turn F2_0'' hu3
    have F2_1''' := Rule.turn F2_1'' hu3
    have F2_2''' := Rule.turn F2_2'' hu3
    have F2_3''' := Rule.turn F2_3'' hu3
    have F2_4''' := Rule.turn F2_4'' hu3
    have F2_5''' := Rule.turn F2_5'' hu3
    have F2_6''' := Rule.turn F2_6'' hu3
    have F2_7''' := Rule.turn F2_7'' hu3
    have F2_8''' := Rule.turn F2_8'' hu3
    clear F0_0'' F0_1'' F0_2'' F0_3'' F0_4'' F0_5'' F0_6'' F0_7'' F0_8'' F1_0'' F1_1'' F1_2'' F1_3'' F1_4'' F1_5'' F1_6'' F1_7'' F1_8'' F2_0'' F2_1'' F2_2'' F2_3'' F2_4'' F2_5'' F2_6'' F2_7'' F2_8''
    refine wpAnyH_take (i := 22) rfl (by kernel_rfl) (by kernel_rfl) (by kernel_rfl) (fun _ _ _ h => h) (Or.inl ⟨by rfl, by intro w hSw; (try dsimp only at hSw); go_simp; (try with_reducible rfl)⟩) (by assumption) ?_; (try simp only [Act.put, List.setIfInBounds_toArray, List.set_cons_zero, List.set_cons_succ, List.getElem_toArray, List.getElem_cons_zero, List.getElem_cons_succ])
    refine wpAnyH_take (i := 23) rfl (by kernel_rfl) (by kernel_rfl) (by kernel_rfl) (fun _ _ _ h => h) (Or.inl ⟨by rfl, by intro w hSw; (try dsimp only at hSw); go_simp; (try with_reducible rfl)⟩) (by assumption) ?_; (try simp only [Act.put, List.setIfInBounds_toArray, List.set_cons_zero, List.set_cons_succ, List.getElem_toArray, List.getElem_cons_zero, List.getElem_cons_succ])
    refine wpAnyH_take (i := 24) rfl (by kernel_rfl) (by kernel_rfl) (by kernel_rfl) (fun _ _ _ h => h) (Or.inl ⟨by rfl, by intro w hSw; (try dsimp only at hSw); go_simp; (try with_reducible rfl)⟩) (by assumption) ?_; (try simp only [Act.put, List.setIfInBounds_toArray, List.set_cons_zero, List.set_cons_succ, List.getElem_toArray, List.getElem_cons_zero, List.getElem_cons_succ])
    refine wpAnyH_take (i := 25) rfl (by kernel_rfl) (by kernel_rfl) (by kernel_rfl) (fun _ _ _ h => h) (Or.inl ⟨by rfl, by intro w hSw; (try dsimp only at hSw); go_simp; (try with_reducible rfl)⟩) (by assumption) ?_; (try simp only [Act.put, List.setIfInBounds_toArray, List.set_cons_zero, List.set_cons_succ, List.getElem_toArray, List.getElem_cons_zero, List.getElem_cons_succ])
    refine wpAnyH_take (i := 26) rfl (by kernel_rfl) (by kernel_rfl) (by kernel_rfl) (fun _ _ _ h => h) (Or.inl ⟨by rfl, by intro w hSw; (try dsimp only at hSw); go_simp; (try with_reducible rfl)⟩) (by assumption) ?_; (try simp only [Act.put, List.setIfInBounds_toArray, List.set_cons_zero, List.set_cons_succ, List.getElem_toArray, List.getElem_cons_zero, List.getElem_cons_succ])
    refine wpAnyH_ready (rs := [27]) (by kernel_rfl) (by simp) ?_
    refine AllReadyH.cons rfl (fun K hK => ?_) AllReadyH.nil
    go_simp
    go_wp2_with (go_at_call 27; refine (HXX.out _ _ (RdC.gr HIn.out ((hgIR.trans hu1).trans (hu2.trans hu3))) (HX.out.gr (((hgR.trans hu1).trans hu2).trans hu3))).mono ?_; rintro e u4 ⟨rfl, hu4⟩)
    refine hK.out _ _ hu4 (fun _ => wpAnyH_turn hu4 (fun hHeld => ?_))
    clear hK K
    try dsimp only at hHeld
    have F0_0'''' := Rule.turn F0_0''' hu4
    have F0_1'''' := Rule.turn F0_1''' hu4
    have F0_2'''' := Rule.turn F0_2''' hu4
    have F0_3'''' := Rule.turn F0_3''' hu4
    have F0_4'''' := Rule.turn F0_4''' hu4
    have F0_5'''' := Rule.turn F0_5''' hu4
    have F0_6'''' := Rule.turn F0_6''' hu4
    have F0_7'''' := Rule.turn F0_7''' hu4
    have F0_8'''' := Rule.turn F0_8''' hu4
    have F1_0'''' := Rule.turn F1_0''' hu4
    have F1_1'''' := Rule.turn F1_1''' hu4
    have F1_2'''' := Rule.turn F1_2''' hu4
    have F1_3'''' := Rule.turn F1_3''' hu4
    have F1_4'''' := Rule.turn F1_4''' hu4
    have F1_5'''' := Rule.turn F1_5''' hu4
    have F1_6'''' := Rule.turn F1_6''' hu4
    have F1_7'''' := Rule.turn F1_7''' hu4
    have F1_8'''' := Rule.turn F1_8''' hu4
    have F2_0'''' := Rule.turn F2_0''' hu4
    have F2_1'''' := Rule.turn F2_1''' hu4
    have F2_2'''' := Rule.turn F2_2''' hu4
    have F2_3'''' := Rule.turn F2_3''' hu4
    have F2_4'''' := Rule.turn F2_4''' hu4
    have F2_5'''' := Rule.turn F2_5''' hu4
    have F2_6'''' := Rule.turn F2_6''' hu4
    have F2_7'''' := Rule.turn F2_7''' hu4
    have F2_8'''' := Rule.turn F2_8''' hu4
    clear F0_0''' F0_1''' F0_2''' F0_3''' F0_4''' F0_5''' F0_6''' F0_7''' F0_8''' F1_0''' F1_1''' F1_2''' F1_3''' F1_4''' F1_5''' F1_6''' F1_7''' F1_8''' F2_0''' F2_1''' F2_2''' F2_3''' F2_4''' F2_5''' F2_6''' F2_7''' F2_8'''
    refine wpAnyH_take (i := 28) rfl (by kernel_rfl) (by kernel_rfl) (by kernel_rfl) (fun _ _ _ h => h) (Or.inl ⟨by rfl, by intro w hSw; (try dsimp only at hSw); go_simp; (try with_reducible rfl)⟩) (by assumption) ?_; (try simp only [Act.put, List.setIfInBounds_toArray, List.set_cons_zero, List.set_cons_succ, List.getElem_toArray, List.getElem_cons_zero, List.getElem_cons_succ])
    refine wpAnyH_take (i := 29) rfl (by kernel_rfl) (by kernel_rfl) (by kernel_rfl) (fun _ _ _ h => h) (Or.inl ⟨by rfl, by intro w hSw; (try dsimp only at hSw); go_simp; (try with_reducible rfl)⟩) (by assumption) ?_; (try simp only [Act.put, List.setIfInBounds_toArray, List.set_cons_zero, List.set_cons_succ, List.getElem_toArray, List.getElem_cons_zero, List.getElem_cons_succ])
    refine wpAnyH_take (i := 30) rfl (by kernel_rfl) (by kernel_rfl) (by kernel_rfl) (fun _ _ _ h => h) (Or.inl ⟨by rfl, by intro w hSw; (try dsimp only at hSw); go_simp; (try with_reducible rfl)⟩) (by assumption) ?_; (try simp only [Act.put, List.setIfInBounds_toArray, List.set_cons_zero, List.set_cons_succ, List.getElem_toArray, List.getElem_cons_zero, List.getElem_cons_succ])
    refine wpAnyH_take (i := 31) rfl (by kernel_rfl) (by kernel_rfl) (by kernel_rfl) (fun _ _ _ h => h) (Or.inl ⟨by rfl, by intro w hSw; (try dsimp only at hSw); go_simp; (try with_reducible rfl)⟩) (by assumption) ?_; (try simp only [Act.put, List.setIfInBounds_toArray, List.set_cons_zero, List.set_cons_succ, List.getElem_toArray, List.getElem_cons_zero, List.getElem_cons_succ])
    refine wpAnyH_ready (rs := [32]) (by kernel_rfl) (by simp) ?_
    refine AllReadyH.cons rfl (fun K hK => ?_) AllReadyH.nil
    go_simp
    go_wp2_with (go_at_call 28; refine (HXR.out _ _ (RdC.gr HIn.out ((hgIR.trans hu1).trans (hu2.trans (hu3.trans hu4)))) (HX.out.gr ((((hgR.trans hu1).trans hu2).trans hu3).trans hu4))).mono ?_; rintro e u5 ⟨rfl, hu5⟩)
    refine hK.out _ _ hu5 (fun _ => wpAnyH_turn hu5 (fun hHeld => ?_))
    clear hK K
    try dsimp only at hHeld
    have F0_0''''' := Rule.turn F0_0'''' hu5
    have F0_1''''' := Rule.turn F0_1'''' hu5
    have F0_2''''' := Rule.turn F0_2'''' hu5
    have F0_3''''' := Rule.turn F0_3'''' hu5
    have F0_4''''' := Rule.turn F0_4'''' hu5
    have F0_5''''' := Rule.turn F0_5'''' hu5
    have F0_6''''' := Rule.turn F0_6'''' hu5
    have F0_7''''' := Rule.turn F0_7'''' hu5
    have F0_8''''' := Rule.turn F0_8'''' hu5
    have F1_0''''' := Rule.turn F1_0'''' hu5
    have F1_1''''' := Rule.turn F1_1'''' hu5
    have F1_2''''' := Rule.turn F1_2'''' hu5
    have F1_3''''' := Rule.turn F1_3'''' hu5
    have F1_4''''' := Rule.turn F1_4'''' hu5
    have F1_5''''' := Rule.turn F1_5'''' hu5
    have F1_6''''' := Rule.turn F1_6'''' hu5
    have F1_7''''' := Rule.turn F1_7'''' hu5
    have F1_8''''' := Rule.turn F1_8'''' hu5
    have F2_0''''' := Rule.turn F2_0'''' hu5
    have F2_1''''' := Rule.turn F2_1'''' hu5
    have F2_2''''' := Rule.turn F2_2'''' hu5
    have F2_3''''' := Rule.turn F2_3'''' hu5
    have F2_4''''' := Rule.turn F2_4'''' hu5
    have F2_5''''' := Rule.turn F2_5'''' hu5
    have F2_6''''' := Rule.turn F2_6'''' hu5
    have F2_7''''' := Rule.turn F2_7'''' hu5
    have F2_8''''' := Rule.turn F2_8'''' hu5
    clear F0_0'''' F0_1'''' F0_2'''' F0_3'''' F0_4'''' F0_5'''' F0_6'''' F0_7'''' F0_8'''' F1_0'''' F1_1'''' F1_2'''' F1_3'''' F1_4'''' F1_5'''' F1_6'''' F1_7'''' F1_8'''' F2_0'''' F2_1'''' F2_2'''' F2_3'''' F2_4'''' F2_5'''' F2_6'''' F2_7'''' F2_8''''
    refine wpAnyH_take (i := 33) rfl (by kernel_rfl) (by kernel_rfl) (by kernel_rfl) (fun _ _ _ h => h) (Or.inl ⟨by rfl, by intro w hSw; (try dsimp only at hSw); go_simp; (try with_reducible rfl)⟩) (by assumption) ?_; (try simp only [Act.put, List.setIfInBounds_toArray, List.set_cons_zero, List.set_cons_succ, List.getElem_toArray, List.getElem_cons_zero, List.getElem_cons_succ])
    refine wpAnyH_take (i := 34) rfl (by kernel_rfl) (by kernel_rfl) (by kernel_rfl) (fun _ _ _ h => h) (Or.inl ⟨by rfl, by intro w hSw; (try dsimp only at hSw); go_simp; (try with_reducible rfl)⟩) (by assumption) ?_; (try simp only [Act.put, List.setIfInBounds_toArray, List.set_cons_zero, List.set_cons_succ, List.getElem_toArray, List.getElem_cons_zero, List.getElem_cons_succ])
    refine wpAnyH_ready (rs := [35]) (by kernel_rfl) (by simp) ?_
    refine AllReadyH.cons rfl (fun K hK => ?_) AllReadyH.nil
    go_simp
    go_wp2_with (go_at_call 17; refine (awake_any _ (hw.gr (((((hgR.trans hu1).trans hu2).trans hu3).trans hu4).trans hu5))).mono ?_; rintro e u6 ⟨rfl, hu6⟩)
    refine hK.out _ _ hu6 (fun _ => wpAnyH_turn hu6 (fun hHeld => ?_))
    clear hK K
    try dsimp only at hHeld
    have F0_0'''''' := Rule.turn F0_0''''' hu6
    have F0_1'''''' := Rule.turn F0_1''''' hu6
    have F0_2'''''' := Rule.turn F0_2''''' hu6
    have F0_3'''''' := Rule.turn F0_3''''' hu6
    have F0_4'''''' := Rule.turn F0_4''''' hu6
    have F0_5'''''' := Rule.turn F0_5''''' hu6
    have F0_6'''''' := Rule.turn F0_6''''' hu6
    have F0_7'''''' := Rule.turn F0_7''''' hu6
    have F0_8'''''' := Rule.turn F0_8''''' hu6
    have F1_0'''''' := Rule.turn F1_0''''' hu6
    have F1_1'''''' := Rule.turn F1_1''''' hu6
    have F1_2'''''' := Rule.turn F1_2''''' hu6
    have F1_3'''''' := Rule.turn F1_3''''' hu6
    have F1_4'''''' := Rule.turn F1_4''''' hu6
    have F1_5'''''' := Rule.turn F1_5''''' hu6
    have F1_6'''''' := Rule.turn F1_6''''' hu6
    have F1_7'''''' := Rule.turn F1_7''''' hu6
    have F1_8'''''' := Rule.turn F1_8''''' hu6
    have F2_0'''''' := Rule.turn F2_0''''' hu6
    have F2_1'''''' := Rule.turn F2_1''''' hu6
    have F2_2'''''' := Rule.turn F2_2''''' hu6
    have F2_3'''''' := Rule.turn F2_3''''' hu6
    have F2_4'''''' := Rule.turn F2_4''''' hu6
    have F2_5'''''' := Rule.turn F2_5''''' hu6
    have F2_6'''''' := Rule.turn F2_6''''' hu6
    have F2_7'''''' := Rule.turn F2_7''''' hu6
    have F2_8'''''' := Rule.turn F2_8''''' hu6
    clear F0_0''''' F0_1''''' F0_2''''' F0_3''''' F0_4''''' F0_5''''' F0_6''''' F0_7''''' F0_8''''' F1_0''''' F1_1''''' F1_2''''' F1_3''''' F1_4''''' F1_5''''' F1_6''''' F1_7''''' F1_8''''' F2_0''''' F2_1''''' F2_2''''' F2_3''''' F2_4''''' F2_5''''' F2_6''''' F2_7''''' F2_8'''''
    refine wpAnyH_take (i := 36) rfl (by kernel_rfl) (by kernel_rfl) (by kernel_rfl) (fun _ _ _ h => h) (Or.inl ⟨by rfl, by intro w hSw; (try dsimp only at hSw); go_simp; (try with_reducible rfl)⟩) (by assumption) ?_; (try simp only [Act.put, List.setIfInBounds_toArray, List.set_cons_zero, List.set_cons_succ, List.getElem_toArray, List.getElem_cons_zero, List.getElem_cons_succ])
    refine wpAnyH_take (i := 37) rfl (by kernel_rfl) (by kernel_rfl) (by kernel_rfl) (fun _ _ _ h => h) (Or.inl ⟨by rfl, by intro w hSw; (try dsimp only at hSw); go_simp; (try with_reducible rfl)⟩) (by assumption) ?_; (try simp only [Act.put, List.setIfInBounds_toArray, List.set_cons_zero, List.set_cons_succ, List.getElem_toArray, List.getElem_cons_zero, List.getElem_cons_succ])
    refine wpAnyH_done (by kernel_rfl) ?_ _
    clear hHeld F0_0'''''' F0_1'''''' F0_2'''''' F0_3'''''' F0_4'''''' F0_5'''''' F0_6'''''' F0_7'''''' F0_8'''''' F1_0'''''' F1_1'''''' F1_2'''''' F1_3'''''' F1_4'''''' F1_5'''''' F1_6'''''' F1_7'''''' F1_8'''''' F2_0'''''' F2_1'''''' F2_2'''''' F2_3'''''' F2_4'''''' F2_5'''''' F2_6'''''' F2_7'''''' F2_8''''''
    go_wp2
    go_ret
    exact ⟨rfl, hgR.trans (hu1.trans (hu2.trans (hu3.trans (hu4.trans (hu5.trans hu6)))))⟩
end Go.Proofs.YtpnojkgdjkncbaaDoor
