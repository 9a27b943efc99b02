/- What the rows stand on, part 47: PekJ. Printed by bundle.py out of my texts. -/
import Derived.Test.YthgecojbggoniaaGreatDoorBd46
namespace Go.Proofs.YthgecojbggoniaaGreatDoor
open Go.RowKit
set_option maxRecDepth 100000
set_option linter.unusedVariables false
set_option linter.unusedSimpArgs false
set_option linter.unnecessarySimpa false

set_option maxHeartbeats 8000000 in
theorem readRest {tb N : Nat} {R : List Rw} {w : World} (h : DocAt tb N R w) (hR : R.length ≤ 1000000) (hsz : ∀ x ∈ R, SzP x) {key : ByteArray} (hk : keyOk key = true) (x : Tx) (hno : intentR R key = none) : Calls Tryz.prog 42 #[.pointer (some ⟨tb, 0, none⟩), .string key, .agg (txC x)] w fun e w' => ∃ vl, e = .returned (.tuple #[.agg (fndA (foundD R key x).1 vl), .int .i64 (foundD R key x).2]) ∧ RdC w' vl (foundD R key x).1.way.l ∧ Gr w w' := by
  have HI15 : Hid ((Tryz.prog.info? 51).map (·.size) = some 15) := Lib.hid (by kernel_rfl)
  have HI9 : Hid ((Tryz.prog.info? 40).map (·.size) = some 9) := Lib.hid (by kernel_rfl)
  have HT := Lib.hid h
  have HSz := Lib.hid hsz
  have HLen := Lib.hid hR
  have HTop := Lib.hid (refTop_any x)
  obtain ⟨W1, hW1⟩ : ∃ W1, W1 = (w.alloc (.cells (txC x) 28)).alloc (.cells (fndA fnd0 (.slice none 0 0)) 51) := ⟨_, rfl⟩
  have HX1 := Lib.hid (show Gr w W1 by rw [hW1]; exact ((Gr.refl w).alloc _).alloc _)
  have HA1 := Lib.hid (show W1.heap[w.heap.size]? = some (.cells (txC x) 28) by rw [hW1]; exact ((Gr.refl _).alloc _).blk (heap_alloc_new w _))
  have HF1 := Lib.hid (show W1.heap[w.heap.size + 1]? = some (.cells (fndA fnd0 (.slice none 0 0)) 51) by rw [hW1]; exact heap_newn (by simp))
  have HIn := Lib.hid (refIntent12 (HT.out.gr HX1.out) hR hsz hk)
  have HNo := Lib.hid hno
  have HW1 := Lib.hid hW1
  clear h hsz hR hk hno hW1
  have e1 := HW1.out
  unfold txC fndA fnd0 itt0 at e1
  simp only at e1
  unfold txC at HTop ⊢
  go_enter Tryz.func42, Tryz.ntmps42
  go_wp2_with fail
  rw [← e1]
  clear e1
  refine HIn.out.mono ?_
  rintro e w2 ⟨it, vl, b, rfl, hrd, hio, hg2⟩
  have hb : b = false := by
    cases b with
    | false => rfl
    | true => rw [HNo.out] at hio; cases hio
  subst hb
  have HFd : Hid (foundD R key x = restD R key x) := Lib.hid (by unfold foundD; rw [HNo.out])
  clear hio
  obtain ⟨vq, vz, vc, rfl⟩ := rdc_slice hrd
  unfold ittA
  have hX2 := (hg2.alloc (.cells (ittA it (.slice vq vz vc)) 40))
  have HRd := Lib.hid (RdC.gr hrd ((Gr.refl w2).alloc (.cells (ittA it (.slice vq vz vc)) 40)))
  have HX2 := Lib.hid hX2
  have HN2 := Lib.hid (heap_alloc_new w2 (.cells (ittA it (.slice vq vz vc)) 40))
  have hk2 := hX2.blk HA1.out
  have hn2 := HN2.out
  unfold txC ittA at hk2
  unfold ittA at hn2
  obtain ⟨k_0, k_1, k_2, k_3, k_4, k_5, k_6, k_7, k_8, k_9, k_10, k_11, _, _, _, _, _, _, _, _, _, _, _, _, _⟩ := blk12 hk2
  obtain ⟨n_0, n_1, n_2, n_3, n_4, n_5, n_6, n_7, n_8, _, _, _, _, _, _, _, _, _, _⟩ := blk9 hn2
  clear hX2 hk2 hn2 hg2 hrd
  go_wp2_with fail
  refine (HTop.out _).mono ?_
  rintro e w3 ⟨rfl, hg3⟩
  have hX3 := (HX2.out.trans hg3).alloc (.cells #[.int .i64 (topS x).1, .int .i64 (topS x).2] 26)
  have HS : Hid (RdS w x w3.heap.size (w3.alloc (.cells #[.int .i64 (topS x).1, .int .i64 (topS x).2] 26))) := Lib.hid ⟨HX1.out.trans hX3, hX3.blk HA1.out, hX3.blk HF1.out, heap_alloc_new _ _⟩
  have HXb := Lib.hid (hg3.alloc (.cells #[.int .i64 (topS x).1, .int .i64 (topS x).2] 26))
  clear k_0 k_1 k_2 k_3 k_4 k_5 k_6 k_7 k_8 k_9 k_10 k_11 n_0 n_1 n_2 n_3 n_4 n_5 n_6 n_7 n_8 hX3 hg3
  have HVs := Lib.hid (refVersions_any (HT.out.gr HS.out.g) HLen.out HSz.out key)
  have HVd : Hid (docRow R key (topS x).1 (topS x).2 = (versR R key).find? (upB (topS x).1 (topS x).2)) := Lib.hid rfl
  generalize versR R key = V at *
  go_wp2_with fail
  refine HVs.out.mono ?_
  rintro e w5 ⟨vv, rfl, hown, hg5⟩
  obtain ⟨vq, vc, rfl⟩ := RdVer.form hown
  have HS5 := Lib.hid (HS.out.gr hg5)
  have HV5 := Lib.hid hown
  have hlenv := fun W ty => len_vers (w := W) (q := vq) (n := V.length) (c := vc) (ty := ty)
  clear hown hg5 HVs
  go_wp2
  go_loopw [13] (fun iv wr => ∃ k : Nat, iv = .int .i64 k ∧ k ≤ V.length ∧ Hid (RdS w x w3.heap.size wr) ∧ Hid (Gr w5 wr) ∧ Hid ((V.take k).all (fun y => !upB (topS x).1 (topS x).2 y) = true)) (fun iv _ => V.length - (intOf iv).toNat)
  case atStart => exact ⟨0, rfl, Nat.zero_le _, HS5, Lib.hid (Gr.refl _), Lib.hid rfl⟩
  case round =>
    obtain ⟨k, rfl, hk, HSr, HGr, HPr⟩ := hrel
    by_cases hkl : k < V.length
    · obtain ⟨bk, of, rfl, q1, q2, c0, c1, c2, c3⟩ := ver_at (OwnG.gr HGr.out HV5.out) hkl
      obtain ⟨m_0, m_1, _, _, ml⟩ := blk2 HSr.out.top
      have HLe := Lib.hid (fun w => refLess_any (topS x).1 (topS x).2 (sa V[k]) (sb V[k]) w)
      have HUp : Hid (upB (topS x).1 (topS x).2 V[k] = !lessS (topS x).1 (topS x).2 (sa V[k]) (sb V[k])) := Lib.hid rfl
      generalize lessS (topS x).1 (topS x).2 (sa V[k]) (sb V[k]) = lb at *
      go_wp2
      go_still_tail 6, (by kernel_rfl)
      go_wp2_with fail
      refine (HLe.out _).mono ?_
      rintro e w6 ⟨rfl, hg6⟩
      have hgr6 : Gr wr w6 := (Gr.refl wr).drew.trans hg6
      have HS6 := Lib.hid (HSr.out.gr hgr6)
      have HG6 := Lib.hid (HGr.out.trans hgr6)
      clear hg6 hgr6 c0 c1 c2 c3 m_0 m_1
      cases lb with
      | true =>
        go_wp2
        go_roundw
        case rel => exact ⟨k + 1, by go_num, by omega, HS6, HG6, Lib.hid (by rw [List.take_succ_eq_append_getElem hkl, List.all_append, HPr.out]; simp [HUp.out])⟩
        case measure => simp [intOf]; omega
      | false =>
        have HFn : Hid (docRow R key (topS x).1 (topS x).2 = some V[k]) := Lib.hid (by rw [HVd.out]; exact find_up hkl HPr.out (by rw [HUp.out]; rfl))
        have HRs : Hid (foundD R key x = if (!lessS (sa V[k]) (sb V[k]) x.rw x.rl) = true then (⟨key, ⟨#[]⟩, false, false, sa V[k], sb V[k], itt0⟩, 121) else (⟨key, (valR V[k]).1, isV V[k], false, sa V[k], sb V[k], itt0⟩, 0)) := Lib.hid (by rw [HFd.out]; unfold restD; rw [HFn.out]; rfl)
        obtain ⟨bk', of', e1, _, _, c0, c1, c2, c3⟩ := ver_at (OwnG.gr HG6.out HV5.out) hkl
        cases e1
        have hk6 := HS6.out.tx
        unfold txC at hk6
        obtain ⟨k_0, k_1, k_2, k_3, k_4, k_5, k_6, k_7, k_8, k_9, k_10, k_11, _, _, _, _, _, _, _, _, _, _, _, _, _⟩ := blk12 hk6
        have HLf := Lib.hid (fun w => refLess_any (sa V[k]) (sb V[k]) x.rw x.rl w)
        generalize lessS (sa V[k]) (sb V[k]) x.rw x.rl = lc at *
        clear hk6
        go_wp2
        go_still_tail 7, (by kernel_rfl)
        go_wp2_with fail
        refine (HLf.out _).mono ?_
        rintro e w7 ⟨rfl, hg7⟩
        have hgr7 : Gr w6 w7 := (Gr.refl w6).drew.trans hg7
        have HS7 := Lib.hid (HS6.out.gr hgr7)
        have HG7 := Lib.hid (HG6.out.trans hgr7)
        have HF7 := Lib.hid HS7.out.f
        clear hg7 hgr7 c0 c1 c2 c3 k_0 k_1 k_2 k_3 k_4 k_5 k_6 k_7 k_8 k_9 k_10 k_11
        obtain ⟨bk', of', e1, _, _, c0, c1, c2, c3⟩ := ver_at (OwnG.gr HG7.out HV5.out) hkl
        cases e1
        cases lc with
        | false =>
          go_wp2_with (refine wpList_store_row (by rfl) _ _ _ (by rfl) _ (fndA ⟨key, ⟨#[]⟩, false, false, sa V[k], sb V[k], itt0⟩ (.slice none 0 0)) (by rfl) (by rfl) _ _ HF7.out HI15.out (by rfl) (fnd_one _ _ _ _) ?_)
          refine bodyPost_ret (v := .tuple #[.agg (fndA ⟨key, ⟨#[]⟩, false, false, sa V[k], sb V[k], itt0⟩ (.slice none 0 0)), .int .i64 121]) ?_ rfl ⟨_, by rw [HRs.out]; rfl, by rw [HRs.out]; exact .inl ⟨rfl, none, 0, rfl, by decide, fun _ => rfl⟩, ⟨below_setRow HS7.out.g.b (by omega) _⟩⟩
          exact results_row_tmp rfl _ _ (w.heap.size + 1) 51 (fndA ⟨key, ⟨#[]⟩, false, false, sa V[k], sb V[k], itt0⟩ (.slice none 0 0)) (0, 0) _ rfl (setRow_heap _ _ _ _ _ _ HF7.out) Tryz.underlying51 rfl HI15.out rfl
        | true =>
          have C0 : ∀ w' : World, w' = w7.drew → w'.cell? ⟨bk, of + k * 4, none⟩ = some (.int .i64 (sa V[k])) := fun w' h => by rw [h]; exact c0
          have C1 : ∀ w' : World, w' = w7.drew → w'.cell? ⟨bk, of + k * 4 + 1, none⟩ = some (.int .i64 (sb V[k])) := fun w' h => by rw [h]; exact c1
          have C2 : ∀ w' : World, w' = w7.drew → w'.cell? ⟨bk, of + k * 4 + 2, none⟩ = some (.string (valR V[k]).1) := fun w' h => by rw [h]; exact c2
          have C3 : ∀ w' : World, w' = w7.drew → w'.cell? ⟨bk, of + k * 4 + 3, none⟩ = some (.bool (isV V[k])) := fun w' h => by rw [h]; exact c3
          clear c0 c1 c2 c3
          go_wp2
          refine wp_region_T (S := fun w' => w' = w7.drew) [17, 18] (by kernel_rfl) rfl (fun hHeld => ?_)
          try dsimp only at hHeld
          refine wpAnyT_take (i := 0) rfl (by kernel_rfl) (by kernel_rfl) (by kernel_rfl) (by kernel_rfl) (fun _ _ _ h => h) (Or.inl ⟨by rfl, by intro w hSw; (try dsimp only at hSw); go_simp; (try with_reducible rfl)⟩) (by assumption) ?_; (try simp only [Act.put, List.setIfInBounds_toArray, List.set_cons_zero, List.set_cons_succ, List.getElem_toArray, List.getElem_cons_zero, List.getElem_cons_succ])
          refine wpAnyT_take (i := 1) rfl (by kernel_rfl) (by kernel_rfl) (by kernel_rfl) (by kernel_rfl) (fun _ _ _ h => h) (Or.inl ⟨by rfl, by intro w hSw; (try dsimp only at hSw); go_simp; (try with_reducible rfl)⟩) (by assumption) ?_; (try simp only [Act.put, List.setIfInBounds_toArray, List.set_cons_zero, List.set_cons_succ, List.getElem_toArray, List.getElem_cons_zero, List.getElem_cons_succ])
          refine wpAnyT_take (i := 2) rfl (by kernel_rfl) (by kernel_rfl) (by kernel_rfl) (by kernel_rfl) (fun _ _ _ h => h) (Or.inl ⟨by rfl, by intro w hSw; (try dsimp only at hSw); go_simp; (try with_reducible rfl)⟩) (by assumption) ?_; (try simp only [Act.put, List.setIfInBounds_toArray, List.set_cons_zero, List.set_cons_succ, List.getElem_toArray, List.getElem_cons_zero, List.getElem_cons_succ])
          refine wpAnyT_take (i := 3) rfl (by kernel_rfl) (by kernel_rfl) (by kernel_rfl) (by kernel_rfl) (fun _ _ _ h => h) (Or.inl ⟨by rfl, by intro w hSw; (try dsimp only at hSw); go_simp; (try with_reducible rfl)⟩) (by assumption) ?_; (try simp only [Act.put, List.setIfInBounds_toArray, List.set_cons_zero, List.set_cons_succ, List.getElem_toArray, List.getElem_cons_zero, List.getElem_cons_succ])
          refine wpAnyT_take (i := 4) rfl (by kernel_rfl) (by kernel_rfl) (by kernel_rfl) (by kernel_rfl) (fun _ _ _ h => h) (Or.inl ⟨by rfl, by intro w hSw; (try dsimp only at hSw); go_simp; (try with_reducible rfl)⟩) (by assumption) ?_; (try simp only [Act.put, List.setIfInBounds_toArray, List.set_cons_zero, List.set_cons_succ, List.getElem_toArray, List.getElem_cons_zero, List.getElem_cons_succ])
          refine wpAnyT_take (i := 5) rfl (by kernel_rfl) (by kernel_rfl) (by kernel_rfl) (by kernel_rfl) (fun _ _ _ h => h) (Or.inl ⟨by rfl, by intro w hSw; (try dsimp only at hSw); go_simp; (try with_reducible rfl)⟩) (by assumption) ?_; (try simp only [Act.put, List.setIfInBounds_toArray, List.set_cons_zero, List.set_cons_succ, List.getElem_toArray, List.getElem_cons_zero, List.getElem_cons_succ])
          refine wpAnyT_take (i := 6) rfl (by kernel_rfl) (by kernel_rfl) (by kernel_rfl) (by kernel_rfl) (fun _ _ _ h => h) (Or.inl ⟨by rfl, by intro w hSw; (try dsimp only at hSw); go_simp; (try with_reducible rfl)⟩) (by assumption) ?_; (try simp only [Act.put, List.setIfInBounds_toArray, List.set_cons_zero, List.set_cons_succ, List.getElem_toArray, List.getElem_cons_zero, List.getElem_cons_succ])
          refine wpAnyT_take (i := 7) rfl (by kernel_rfl) (by kernel_rfl) (by kernel_rfl) (by kernel_rfl) (fun _ _ _ h => h) (Or.inl ⟨by rfl, by intro w hSw; (try dsimp only at hSw); go_simp; (try with_reducible rfl)⟩) (by assumption) ?_; (try simp only [Act.put, List.setIfInBounds_toArray, List.set_cons_zero, List.set_cons_succ, List.getElem_toArray, List.getElem_cons_zero, List.getElem_cons_succ])
          refine wpAnyT_take (i := 8) rfl (by kernel_rfl) (by kernel_rfl) (by kernel_rfl) (by kernel_rfl) (fun _ _ _ h => h) (Or.inl ⟨by rfl, by intro w hSw; (try dsimp only at hSw); go_simp; (try with_reducible rfl)⟩) (by assumption) ?_; (try simp only [Act.put, List.setIfInBounds_toArray, List.set_cons_zero, List.set_cons_succ, List.getElem_toArray, List.getElem_cons_zero, List.getElem_cons_succ])
          refine wpAnyT_take (i := 9) rfl (by kernel_rfl) (by kernel_rfl) (by kernel_rfl) (by kernel_rfl) (fun _ _ _ h => h) (Or.inl ⟨by rfl, by intro w hSw; (try dsimp only at hSw); go_simp; (try with_reducible rfl)⟩) (by assumption) ?_; (try simp only [Act.put, List.setIfInBounds_toArray, List.set_cons_zero, List.set_cons_succ, List.getElem_toArray, List.getElem_cons_zero, List.getElem_cons_succ])
          refine wpAnyT_take (i := 10) rfl (by kernel_rfl) (by kernel_rfl) (by kernel_rfl) (by kernel_rfl) (fun _ _ _ h => h) (Or.inl ⟨by rfl, by intro w hSw; (try dsimp only at hSw); go_simp; (try with_reducible rfl)⟩) (by assumption) ?_; (try simp only [Act.put, List.setIfInBounds_toArray, List.set_cons_zero, List.set_cons_succ, List.getElem_toArray, List.getElem_cons_zero, List.getElem_cons_succ])
          refine wpAnyT_take (i := 11) rfl (by kernel_rfl) (by kernel_rfl) (by kernel_rfl) (by kernel_rfl) (fun _ _ _ h => h) (Or.inl ⟨by rfl, by intro w hSw; (try dsimp only at hSw); go_simp; (try with_reducible rfl)⟩) (by assumption) ?_; (try simp only [Act.put, List.setIfInBounds_toArray, List.set_cons_zero, List.set_cons_succ, List.getElem_toArray, List.getElem_cons_zero, List.getElem_cons_succ])
          refine wpAnyT_take (i := 12) rfl (by kernel_rfl) (by kernel_rfl) (by kernel_rfl) (by kernel_rfl) (fun _ _ _ h => h) (Or.inl ⟨by rfl, by intro w hSw; (try dsimp only at hSw); go_simp; (try with_reducible rfl)⟩) (by assumption) ?_; (try simp only [Act.put, List.setIfInBounds_toArray, List.set_cons_zero, List.set_cons_succ, List.getElem_toArray, List.getElem_cons_zero, List.getElem_cons_succ])
          refine wpAnyT_take (i := 13) rfl (by kernel_rfl) (by kernel_rfl) (by kernel_rfl) (by kernel_rfl) (fun _ _ _ h => h) (Or.inl ⟨by rfl, by intro w hSw; (try dsimp only at hSw); go_simp; (try with_reducible rfl)⟩) (by assumption) ?_; (try simp only [Act.put, List.setIfInBounds_toArray, List.set_cons_zero, List.set_cons_succ, List.getElem_toArray, List.getElem_cons_zero, List.getElem_cons_succ])
          refine wpAnyT_take (i := 14) rfl (by kernel_rfl) (by kernel_rfl) (by kernel_rfl) (by kernel_rfl) (fun _ _ _ h => h) (Or.inl ⟨by rfl, by intro w hSw; (try dsimp only at hSw); go_simp; (try with_reducible rfl)⟩) (by assumption) ?_; (try simp only [Act.put, List.setIfInBounds_toArray, List.set_cons_zero, List.set_cons_succ, List.getElem_toArray, List.getElem_cons_zero, List.getElem_cons_succ])
          refine wpAnyT_take (i := 15) rfl (by kernel_rfl) (by kernel_rfl) (by kernel_rfl) (by kernel_rfl) (fun _ _ _ h => h) (Or.inl ⟨by rfl, by intro w hSw; (try dsimp only at hSw); go_simp; (try with_reducible rfl)⟩) (by assumption) ?_; (try simp only [Act.put, List.setIfInBounds_toArray, List.set_cons_zero, List.set_cons_succ, List.getElem_toArray, List.getElem_cons_zero, List.getElem_cons_succ])
          refine wpAnyT_take (i := 16) rfl (by kernel_rfl) (by kernel_rfl) (by kernel_rfl) (by kernel_rfl) (fun _ _ _ h => h) (Or.inl ⟨by rfl, by intro w hSw; (try dsimp only at hSw); go_simp; (try with_reducible rfl)⟩) (by assumption) ?_; (try simp only [Act.put, List.setIfInBounds_toArray, List.set_cons_zero, List.set_cons_succ, List.getElem_toArray, List.getElem_cons_zero, List.getElem_cons_succ])
          refine wpAnyT_chain [17, 18] (.cons rfl (.cons rfl .nil)) (by kernel_rfl) (by kernel_rfl) rfl ?_
          clear hHeld C0 C1 C2 C3
          go_wp2_with (refine wpList_store_row (by rfl) _ _ _ (by rfl) _ (fndA ⟨key, (valR V[k]).1, isV V[k], false, sa V[k], sb V[k], itt0⟩ (.slice none 0 0)) (by rfl) (by rfl) _ _ (heap_drew HF7.out) HI15.out (by rfl) (fnd_one _ _ _ _) ?_)
          refine bodyPost_ret (v := .tuple #[.agg (fndA ⟨key, (valR V[k]).1, isV V[k], false, sa V[k], sb V[k], itt0⟩ (.slice none 0 0)), .int .i64 0]) ?_ rfl ⟨_, by rw [HRs.out]; rfl, by rw [HRs.out]; exact .inl ⟨rfl, none, 0, rfl, by decide, fun _ => rfl⟩, ⟨below_setRow HS7.out.g.drew.b (by omega) _⟩⟩
          exact results_row_tmp rfl _ _ (w.heap.size + 1) 51 (fndA ⟨key, (valR V[k]).1, isV V[k], false, sa V[k], sb V[k], itt0⟩ (.slice none 0 0)) (0, 0) _ rfl (setRow_heap _ _ _ _ _ _ (heap_drew HF7.out)) Tryz.underlying51 rfl HI15.out rfl
    · obtain rfl : k = V.length := by omega
      have HFn : Hid (docRow R key (topS x).1 (topS x).2 = none) := Lib.hid (by rw [HVd.out]; refine find_no ?_; have := HPr.out; rwa [List.take_length] at this)
      have HRs : Hid (foundD R key x = (⟨key, ⟨#[]⟩, false, false, 0, 0, itt0⟩, 0)) := Lib.hid (by rw [HFd.out]; unfold restD; rw [HFn.out])
      have HF7 := Lib.hid HSr.out.f
      go_wp2_with (refine wpList_store_row (by rfl) _ _ _ (by rfl) _ (fndA ⟨key, ⟨#[]⟩, false, false, 0, 0, itt0⟩ (.slice none 0 0)) (by rfl) (by rfl) _ _ HF7.out HI15.out (by rfl) (fnd_one _ _ _ _) ?_)
      refine bodyPost_ret (v := .tuple #[.agg (fndA ⟨key, ⟨#[]⟩, false, false, 0, 0, itt0⟩ (.slice none 0 0)), .int .i64 0]) ?_ rfl ⟨_, by rw [HRs.out], by rw [HRs.out]; exact .inl ⟨rfl, none, 0, rfl, by decide, fun _ => rfl⟩, ⟨below_setRow HSr.out.g.b (by omega) _⟩⟩
      exact results_row_tmp rfl _ _ (w.heap.size + 1) 51 (fndA ⟨key, ⟨#[]⟩, false, false, 0, 0, itt0⟩ (.slice none 0 0)) (0, 0) _ rfl (setRow_heap _ _ _ _ _ _ HF7.out) Tryz.underlying51 rfl HI15.out rfl
end Go.Proofs.YthgecojbggoniaaGreatDoor
