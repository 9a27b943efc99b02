/- What the rows stand on, part 43: PekE. Printed by bundle.py out of my texts. -/
import Derived.Test.YthgecojbggoniaaGreatDoorBe42
import Derived.BigQuiet
import Derived.RegionTactic
import Derived.StillTailTactics
namespace Go.Proofs.YthgecojbggoniaaGreatDoor
open Go.RowKit
set_option maxRecDepth 100000
set_option linter.unusedVariables false
set_option linter.unusedSimpArgs false
set_option linter.unnecessarySimpa false

theorem wp_world {P : Program} {c : Code} {Q : Exit → Act → World → Prop} {a : Act} {W1 w : World} (h : Gr W1 w) (k : ∀ W9, Gr W1 W9 → c.wp P Q a W9) : c.wp P Q a w := k w h
theorem k_world {K : Exit → Act → World → Prop} {e : Exit} {a : Act} {W1 w : World} (h : Gr W1 w) (k : ∀ W9, Gr W1 W9 → K e a W9) : K e a w := k w h
theorem offE_nil0 {s : St} {e : Int} (h : offE s e = 0) : e = 0 := by
  unfold offE at h
  split at h
  · cases h
  · rename_i h1
    exact Classical.byContradiction fun h2 => h1 (.inr (.inr h2))
theorem intentR_ok {R : List Rw} {key : ByteArray} {it : Itt} (h : intentR R key = some it) : ittOk it = true := by
  unfold intentR at h
  cases hg : getR (ofL (intentKeyR key.data.toList).1) R with
  | none => rw [hg] at h; cases h
  | some s =>
    rw [hg] at h
    simp only [Option.bind_some] at h
    unfold takeIttR at h
    split at h
    · rename_i h0
      have h1 := offE_nil0 h0
      unfold okE at h1
      split at h1
      · rename_i h2
        cases h
        exact h2
      · cases h1
    · cases h
theorem ittOk_len {it : Itt} (h : ittOk it = true) : 1 ≤ it.l.length ∧ it.l.length ≤ 16 := by
  unfold ittOk at h
  simp only [Bool.and_eq_true, decide_eq_true_eq] at h
  exact ⟨h.1.1.2, h.1.2⟩
theorem lastC_at {l : List Chg} {n : Nat} (h : l.length = n + 1) : lastC l = l[n]'(by omega) := by
  unfold lastC
  rw [List.getLast?_eq_getElem?]
  simp [h]
theorem rdc_nil (w : World) : RdC w (.slice none 0 0) [] := .inl ⟨rfl, none, 0, rfl, by decide, fun _ => rfl⟩

set_option maxHeartbeats 8000000 in
theorem key12 {ta g : Nat} {S : Nat → Prop} {R : List Rw} {x : Tx} {w : World} (hw : Sh w) (h : TabAt ta S R w) (hg : w.heap[g]? = some (.cells (rdgC ta x) 123)) (hsz : ∀ x ∈ R, x.1.size < 140737488355328 ∧ x.2.size ≤ 140737488351232) (hszp : ∀ x ∈ R, SzP x) (key : ByteArray) :
    Calls Tryz.prog 36 #[.pointer (some ⟨g, 0, none⟩), .string key] w fun e w' => ∃ vl, e = .returned (.tuple #[.agg (fndA (foundF R key x).1 vl), .int .i64 (foundF R key x).2]) ∧ RdC w' vl (foundF R key x).1.way.l ∧ Gr w w' := by
  have HSh := Lib.hid hw
  have HT := Lib.hid h
  have HB := Lib.hid hg
  have HSz := Lib.hid hsz
  have HX0 : Hid (Gr w (w.alloc (.cells #[.string ⟨#[]⟩, .string ⟨#[]⟩, .bool false, .bool false, .int .i64 0, .int .i64 0, .int .i64 0, .int .i64 0, .int .i64 0, .string ⟨#[]⟩, .int .i64 0, .int .i64 0, .int .i64 0, .int .i64 0, .slice none 0 0] 42))) := Lib.hid ((Gr.refl w).alloc _)
  have HIn := Lib.hid (intent12 (hw.alloc _) (h.gr HX0.out) (HX0.out.blk hg) hszp key)
  have HF : Hid (foundF R key x = match intentR R key with
    | none => restF R key x
    | some y => if y.id = x.id then (if x.ep < y.epoch then (fnd0, 201) else if y.epoch = x.ep then (⟨key, (lastC y.l).value, !(lastC y.l).del, true, y.sw, y.sl, itt0⟩, 0) else restF R key x) else if (!lessS (topS x).1 (topS x).2 y.sw y.sl) = true then (⟨key, ⟨#[]⟩, false, false, 0, 0, y⟩, 120) else restF R key x) := Lib.hid rfl
  obtain ⟨fv, fb, hvf, hway⟩ : ∃ fv fb, verF R key (topS x).1 (topS x).2 = (fv, fb) ∧ fv.way = itt0 := by
    unfold verF
    split
    · exact ⟨_, _, rfl, rfl⟩
    · exact ⟨_, _, rfl, rfl⟩
  have HWay := Lib.hid hway
  have HRst : Hid (restF R key x = if (fb && !lessS fv.sw fv.sl x.rw x.rl) = true then (⟨key, ⟨#[]⟩, false, false, fv.sw, fv.sl, itt0⟩, 121) else (fv, 0)) := Lib.hid (by unfold restF; rw [hvf])
  have HVer := Lib.hid (fun w' (hg' : Gr w w') => version12 (hw.gr hg') (h.gr hg') (hg'.blk hg) hsz key)
  rw [hvf] at HVer
  unfold fndA at HVer
  have HI15 : Hid ((Tryz.prog.info? 42).map (·.size) = some 15) := Lib.hid (by kernel_rfl)
  clear h hg hw hsz hszp hvf hway
  go_enter Tryz.func36, Tryz.ntmps36
  go_wp2_with fail
  refine HIn.out.mono ?_
  rintro e w1 ⟨it, vl, b, rfl, hrd, hi, hg1⟩
  obtain ⟨vq, vz, vc, rfl⟩ : ∃ q z c, vl = .slice q z c := by
    obtain ⟨q, c, e⟩ := RdR.form hrd
    exact ⟨_, _, _, e⟩
  have H41 := Lib.hid (hg1.blk (heap_alloc_new w _))
  have HXa := Lib.hid (HX0.out.trans hg1)
  have HRd := Lib.hid hrd
  have HOk : Hid (b = true → ittOk it = true) := Lib.hid (fun hb => intentR_ok (R := R) (key := key) (by rw [hi, hb]; rfl))
  rw [hi] at HF
  clear hi hrd hg1 HIn
  obtain ⟨W1, hW1⟩ : ∃ W1, W1 = w1.alloc (.cells #[.int .i64 it.id, .int .i64 it.epoch, .int .i64 it.prio, .string it.anchor, .int .i64 it.sw, .int .i64 it.sl, .int .i64 it.bw, .int .i64 it.bl, .slice vq vz vc] 40) := ⟨_, rfl⟩
  have hX1 : Gr w1 W1 := by rw [hW1]; exact (Gr.refl _).alloc _
  have HXi := Lib.hid (HXa.out.trans hX1)
  have HXd : Hid (∀ W', Gr W1 W' → Gr w W') := Lib.hid (fun W' h => HXi.out.trans h)
  have H4 := Lib.hid (hX1.blk H41.out)
  have HIt : Hid (W1.heap[w1.heap.size]? = some (.cells #[.int .i64 it.id, .int .i64 it.epoch, .int .i64 it.prio, .string it.anchor, .int .i64 it.sw, .int .i64 it.sl, .int .i64 it.bw, .int .i64 it.bl, .slice vq vz vc] 40)) := Lib.hid (by rw [hW1]; exact heap_alloc_new _ _)
  have HW1 := Lib.hid hW1
  clear hX1 hW1 H41
  obtain ⟨i_0, i_1, i_2, i_3, i_4, i_5, i_6, i_7, i_8, _, _, _, _, _, _, _, _, _, _⟩ := blk9 HIt.out
  have hb1 := HXi.out.blk HB.out
  unfold rdgC at hb1
  obtain ⟨k_0, k_1, k_2, k_3, k_4, k_5, k_6, k_7, k_8, k_9, k_10, k_11, k_12, k_13, k_14, _, _, _, _, _, _, _, _, _, _, _, _, _, _, _, _⟩ := blk15 hb1
  clear hb1
  cases b with
  | false =>
    have HFr : Hid (foundF R key x = restF R key x) := Lib.hid HF.out
    clear HF
    go_wp2_with fail
    rw [← HW1.out]
    go_quiet (fail)
    go_wp2
    go_quiet (fail)
    go_wp2
    go_quiet (fail)
    go_wp2
    go_quiet (fail)
    go_wp2_with fail
    refine (HVer.out _ (HXd.out _ ((Gr.refl W1).drewN _))).mono ?_
    rintro e w5 ⟨rfl, hg5⟩
    have HX5 := Lib.hid ((HXi.out.drewN _).trans hg5)
    have HZ4 := Lib.hid ((((Gr.refl W1).drewN _).trans (hg5.alloc (.cells #[.string fv.key, .string fv.val, .bool fv.is, .bool fv.own, .int .i64 fv.sw, .int .i64 fv.sl, .int .i64 fv.way.id, .int .i64 fv.way.epoch, .int .i64 fv.way.prio, .string fv.way.anchor, .int .i64 fv.way.sw, .int .i64 fv.way.sl, .int .i64 fv.way.bw, .int .i64 fv.way.bl, .slice none 0 0] 42))).blk H4.out)
    have HZg := Lib.hid (HX5.out.alloc (.cells #[.string fv.key, .string fv.val, .bool fv.is, .bool fv.own, .int .i64 fv.sw, .int .i64 fv.sl, .int .i64 fv.way.id, .int .i64 fv.way.epoch, .int .i64 fv.way.prio, .string fv.way.anchor, .int .i64 fv.way.sw, .int .i64 fv.way.sl, .int .i64 fv.way.bw, .int .i64 fv.way.bl, .slice none 0 0] 42))
    have HB5 := Lib.hid (HZg.out.blk HB.out)
    have HN := Lib.hid (heap_alloc_new w5 (.cells #[.string fv.key, .string fv.val, .bool fv.is, .bool fv.own, .int .i64 fv.sw, .int .i64 fv.sl, .int .i64 fv.way.id, .int .i64 fv.way.epoch, .int .i64 fv.way.prio, .string fv.way.anchor, .int .i64 fv.way.sw, .int .i64 fv.way.sl, .int .i64 fv.way.bw, .int .i64 fv.way.bl, .slice none 0 0] 42))
    clear hg5 k_0 k_1 k_2 k_3 k_4 k_5 k_6 k_7 k_8 k_9 k_10 k_11 k_12 k_13 k_14 i_0 i_1 i_2 i_3 i_4 i_5 i_6 i_7 i_8
    cases fb with
    | false =>
      have HRes : Hid (foundF R key x = (fv, 0)) := Lib.hid (HFr.out.trans HRst.out)
      go_wp2
      go_quiet (fail)
      replace HZg := Lib.hid (HZg.out.drewN nq)
      go_wp2_with (first
        | (refine wpList_load_row (by rfl) _ _ (by rfl) _ (by rfl) _ _ _ _ HN.out Tryz.underlying42 rfl HI15.out ?_)
        | (refine wpList_store_row (by rfl) _ _ _ (by rfl) _ (fndA fv (.slice none 0 0)) (by rfl) (by rfl) _ _ HZ4.out HI15.out (by rfl) (fnd_one _ _ _ _) ?_))
      refine bodyPost_ret (v := .tuple #[.agg (fndA fv (.slice none 0 0)), .int .i64 0]) ?_ rfl ⟨_, by rw [HRes.out], by rw [HRes.out, HWay.out]; exact rdc_nil _, ⟨below_setRow HZg.out.b (Nat.le_refl _) _⟩⟩
      refine results_row_tmp rfl _ _ w.heap.size 42 (fndA fv (.slice none 0 0)) (0, 0) _ rfl ?_ Tryz.underlying42 rfl HI15.out rfl
      exact setRow_heap _ _ _ _ _ _ HZ4.out
    | true =>
      obtain ⟨W7, hW7⟩ : ∃ W7, W7 = w5.alloc (.cells #[.string fv.key, .string fv.val, .bool fv.is, .bool fv.own, .int .i64 fv.sw, .int .i64 fv.sl, .int .i64 fv.way.id, .int .i64 fv.way.epoch, .int .i64 fv.way.prio, .string fv.way.anchor, .int .i64 fv.way.sw, .int .i64 fv.way.sl, .int .i64 fv.way.bw, .int .i64 fv.way.bl, .slice none 0 0] 42) := ⟨_, rfl⟩
      rw [← hW7] at HZ4 HZg HB5 HN
      have HW7 := Lib.hid hW7
      have hb1 := HB5.out
      unfold rdgC at hb1
      obtain ⟨k_0, k_1, k_2, k_3, k_4, k_5, k_6, k_7, k_8, k_9, k_10, k_11, k_12, k_13, k_14, _, _, _, _, _, _, _, _, _, _, _, _, _, _, _, _⟩ := blk15 hb1
      obtain ⟨n_0, n_1, n_2, n_3, n_4, n_5, n_6, n_7, n_8, n_9, n_10, n_11, n_12, n_13, n_14, _, _, _, _, _, _, _, _, _, _, _, _, _, _, _, _⟩ := blk15 HN.out
      clear hb1 hW7
      cases hl : lessS fv.sw fv.sl x.rw x.rl with
      | true =>
        have HLs := Lib.hid (fun w => less_any fv.sw fv.sl x.rw x.rl w)
        rw [hl] at HLs
        have HRes : Hid (foundF R key x = (fv, 0)) := Lib.hid (by rw [HFr.out, HRst.out, hl]; rfl)
        clear hl
        go_wp2
        rw [← HW7.out]
        go_still_tail 9, (by kernel_rfl)
        clear k_0 k_1 k_2 k_3 k_4 k_5 k_6 k_7 k_8 k_9 k_10 k_11 k_12 k_13 k_14 n_0 n_1 n_2 n_3 n_4 n_5 n_6 n_7 n_8 n_9 n_10 n_11 n_12 n_13 n_14
        go_wp2_with fail
        refine (HLs.out _).mono ?_
        rintro e w8 ⟨rfl, hg8⟩
        have HX8 := Lib.hid ((Gr.refl W7).drew.trans hg8)
        clear hg8
        replace HZ4 := Lib.hid (HX8.out.blk HZ4.out)
        replace HN := Lib.hid (HX8.out.blk HN.out)
        replace HZg := Lib.hid (HZg.out.trans HX8.out)
        go_wp2_with (first
          | (refine wpList_load_row (by rfl) _ _ (by rfl) _ (by rfl) _ _ _ _ HN.out Tryz.underlying42 rfl HI15.out ?_)
          | (refine wpList_store_row (by rfl) _ _ _ (by rfl) _ (fndA fv (.slice none 0 0)) (by rfl) (by rfl) _ _ HZ4.out HI15.out (by rfl) (fnd_one _ _ _ _) ?_))
        refine bodyPost_ret (v := .tuple #[.agg (fndA fv (.slice none 0 0)), .int .i64 0]) ?_ rfl ⟨_, by rw [HRes.out], by rw [HRes.out, HWay.out]; exact rdc_nil _, ⟨below_setRow HZg.out.b (Nat.le_refl _) _⟩⟩
        refine results_row_tmp rfl _ _ w.heap.size 42 (fndA fv (.slice none 0 0)) (0, 0) _ rfl ?_ Tryz.underlying42 rfl HI15.out rfl
        exact setRow_heap _ _ _ _ _ _ HZ4.out
      | false =>
        have HLs := Lib.hid (fun w => less_any fv.sw fv.sl x.rw x.rl w)
        rw [hl] at HLs
        have HRes : Hid (foundF R key x = (⟨key, ⟨#[]⟩, false, false, fv.sw, fv.sl, itt0⟩, 121)) := Lib.hid (by rw [HFr.out, HRst.out, hl]; rfl)
        clear hl
        go_wp2
        rw [← HW7.out]
        go_still_tail 9, (by kernel_rfl)
        clear k_0 k_1 k_2 k_3 k_4 k_5 k_6 k_7 k_8 k_9 k_10 k_11 k_12 k_13 k_14 n_0 n_1 n_2 n_3 n_4 n_5 n_6 n_7 n_8 n_9 n_10 n_11 n_12 n_13 n_14
        go_wp2_with fail
        refine (HLs.out _).mono ?_
        rintro e w8 ⟨rfl, hg8⟩
        have HX8 := Lib.hid ((Gr.refl W7).drew.trans hg8)
        clear hg8
        replace HZ4 := Lib.hid (HX8.out.blk HZ4.out)
        replace HZg := Lib.hid (HZg.out.trans HX8.out)
        obtain ⟨n_0, n_1, n_2, n_3, n_4, n_5, n_6, n_7, n_8, n_9, n_10, n_11, n_12, n_13, n_14, _, _, _, _, _, _, _, _, _, _, _, _, _, _, _, _⟩ := blk15 (HX8.out.blk HN.out)
        go_wp2_with (refine wpList_store_row (by rfl) _ _ _ (by rfl) _ (fndA ⟨key, ⟨#[]⟩, false, false, fv.sw, fv.sl, itt0⟩ (.slice none 0 0)) (by rfl) (by rfl) _ _ HZ4.out HI15.out (by rfl) (fnd_one _ _ _ _) ?_)
        refine bodyPost_ret (v := .tuple #[.agg (fndA ⟨key, ⟨#[]⟩, false, false, fv.sw, fv.sl, itt0⟩ (.slice none 0 0)), .int .i64 121]) ?_ rfl ⟨_, by rw [HRes.out], by rw [HRes.out]; exact rdc_nil _, ⟨below_setRow HZg.out.b (Nat.le_refl _) _⟩⟩
        refine results_row_tmp rfl _ _ w.heap.size 42 (fndA ⟨key, ⟨#[]⟩, false, false, fv.sw, fv.sl, itt0⟩ (.slice none 0 0)) (0, 0) _ rfl ?_ Tryz.underlying42 rfl HI15.out rfl
        exact setRow_heap _ _ _ _ _ _ HZ4.out
  | true =>
    have HFr0 : Hid (foundF R key x = if it.id = x.id then (if x.ep < it.epoch then (fnd0, 201) else if it.epoch = x.ep then (⟨key, (lastC it.l).value, !(lastC it.l).del, true, it.sw, it.sl, itt0⟩, 0) else restF R key x) else if (!lessS (topS x).1 (topS x).2 it.sw it.sl) = true then (⟨key, ⟨#[]⟩, false, false, 0, 0, it⟩, 120) else restF R key x) := Lib.hid HF.out
    clear HF
    by_cases hid : it.id = x.id
    · by_cases he1 : x.ep < it.epoch
      · have HRes : Hid (foundF R key x = (fnd0, 201)) := Lib.hid (by rw [HFr0.out, if_pos hid, if_pos he1])
        have HId := Lib.hid hid
        clear HFr0 hid
        go_wp2_with fail
        rw [← HW1.out]
        have hid := HId.out
        go_quiet (fail)
        go_wp2
        go_quiet (fail)
        go_wp2_with (refine wpList_store_row (by rfl) _ _ _ (by rfl) _ (fndA fnd0 (.slice none 0 0)) (by rfl) (by rfl) _ _ H4.out HI15.out (by rfl) (fnd_one _ _ _ _) ?_)
        refine bodyPost_ret (v := .tuple #[.agg (fndA fnd0 (.slice none 0 0)), .int .i64 201]) ?_ rfl ⟨_, by rw [HRes.out], by rw [HRes.out]; exact rdc_nil _, ⟨below_setRow (HXi.out.drewN _).b (Nat.le_refl _) _⟩⟩
        refine results_row_tmp rfl _ _ w.heap.size 42 (fndA fnd0 (.slice none 0 0)) (0, 0) _ rfl ?_ Tryz.underlying42 rfl HI15.out rfl
        exact setRow_heap _ _ _ _ _ _ H4.out
      · by_cases he2 : it.epoch = x.ep
        · have HRes : Hid (foundF R key x = (⟨key, (lastC it.l).value, !(lastC it.l).del, true, it.sw, it.sl, itt0⟩, 0)) := Lib.hid (by rw [HFr0.out, if_pos hid, if_neg he1, if_pos he2])
          have hln := ittOk_len (HOk.out rfl)
          obtain ⟨n, hn⟩ : ∃ n, it.l.length = n + 1 := ⟨it.l.length - 1, by omega⟩
          have hX1 : Gr w1 W1 := by rw [HW1.out]; exact (Gr.refl _).alloc _
          obtain ⟨blk, off, cap, hv, hcap, hmax, c0, c1, c2⟩ := (HRd.out.gr hX1).at (k := n) (by omega)
          rw [← lastC_at hn] at c0 c1 c2
          rw [hn] at hv hcap hln
          have HLn := Lib.hid hln
          have HId := Lib.hid hid
          have HE2 := Lib.hid he2
          obtain ⟨rfl, rfl, rfl⟩ : vq = some ⟨blk, off, none⟩ ∧ vz = n + 1 ∧ vc = cap := by simpa using hv
          generalize lastC it.l = lc at *
          have hwr : wrap64 (↑n : Int) = ↑n := by unfold wrap64; omega
          have hwb : (0 : Int) ≤ ↑n ∧ (↑n : Int) < ↑n + 1 := ⟨Int.natCast_nonneg n, Int.lt_add_one_of_le (Int.le_refl _)⟩
          clear hX1 hv HFr0 hid he2 hln hn
          go_wp2_with fail
          rw [← HW1.out]
          have hid := HId.out
          go_quiet (fail)
          go_wp2
          go_quiet (fail)
          go_wp2
          have he2 := HE2.out
          go_quiet (fail)
          refine k_world (W1 := W1) ?_ (fun W9 hg9 => ?_)
          · repeat (first | exact Gr.refl _ | refine Gr.drewN ?_ _)
          clear k_0 k_1 k_2 k_3 k_4 k_5 k_6 k_7 k_8 k_9 k_10 k_11 k_12 k_13 k_14 i_0 i_1 i_2 i_3 i_4 i_5 i_6 i_7 i_8
          obtain ⟨i_0, i_1, i_2, i_3, i_4, i_5, i_6, i_7, i_8, _, _, _, _, _, _, _, _, _, _⟩ := blk9 (hg9.blk HIt.out)
          replace c0 := hg9.cell' c0
          replace c1 := hg9.cell' c1
          replace c2 := hg9.cell' c2
          have HX9 := Lib.hid (hg9.alloc (.cells #[.int .i64 lc.seq, .string lc.value, .bool lc.del] 76))
          have HZ4 := Lib.hid (HX9.out.blk H4.out)
          have HZg := Lib.hid (HXi.out.trans HX9.out)
          clear hg9
          go_wp2_with (refine wpList_store_row (by rfl) _ _ _ (by rfl) _ (fndA ⟨key, lc.value, !lc.del, true, it.sw, it.sl, itt0⟩ (.slice none 0 0)) (by rfl) (by rfl) _ _ HZ4.out HI15.out (by rfl) (fnd_one _ _ _ _) ?_)
          refine bodyPost_ret (v := .tuple #[.agg (fndA ⟨key, lc.value, !lc.del, true, it.sw, it.sl, itt0⟩ (.slice none 0 0)), .int .i64 0]) ?_ rfl ⟨_, by rw [HRes.out], by rw [HRes.out]; exact rdc_nil _, ⟨below_setRow HZg.out.b (Nat.le_refl _) _⟩⟩
          refine results_row_tmp rfl _ _ w.heap.size 42 (fndA ⟨key, lc.value, !lc.del, true, it.sw, it.sl, itt0⟩ (.slice none 0 0)) (0, 0) _ rfl ?_ Tryz.underlying42 rfl HI15.out rfl
          exact setRow_heap _ _ _ _ _ _ HZ4.out
        · have he2f : (it.epoch == x.ep) = false := by simpa using he2
          have HFr : Hid (foundF R key x = restF R key x) := Lib.hid (by rw [HFr0.out, if_pos hid, if_neg he1, if_neg he2])
          have HId := Lib.hid hid
          clear HFr0 hid
          go_wp2_with fail
          rw [← HW1.out]
          have hid := HId.out
          go_quiet (fail)
          go_wp2
          go_quiet (fail)
          go_wp2
          go_quiet (fail)
          go_wp2
          go_quiet (fail)
          go_wp2_with fail
          refine (HVer.out _ (HXd.out _ ((Gr.refl W1).drewN _))).mono ?_
          rintro e w5 ⟨rfl, hg5⟩
          have HX5 := Lib.hid ((HXi.out.drewN _).trans hg5)
          have HZ4 := Lib.hid ((((Gr.refl W1).drewN _).trans (hg5.alloc (.cells #[.string fv.key, .string fv.val, .bool fv.is, .bool fv.own, .int .i64 fv.sw, .int .i64 fv.sl, .int .i64 fv.way.id, .int .i64 fv.way.epoch, .int .i64 fv.way.prio, .string fv.way.anchor, .int .i64 fv.way.sw, .int .i64 fv.way.sl, .int .i64 fv.way.bw, .int .i64 fv.way.bl, .slice none 0 0] 42))).blk H4.out)
          have HZg := Lib.hid (HX5.out.alloc (.cells #[.string fv.key, .string fv.val, .bool fv.is, .bool fv.own, .int .i64 fv.sw, .int .i64 fv.sl, .int .i64 fv.way.id, .int .i64 fv.way.epoch, .int .i64 fv.way.prio, .string fv.way.anchor, .int .i64 fv.way.sw, .int .i64 fv.way.sl, .int .i64 fv.way.bw, .int .i64 fv.way.bl, .slice none 0 0] 42))
          have HB5 := Lib.hid (HZg.out.blk HB.out)
          have HN := Lib.hid (heap_alloc_new w5 (.cells #[.string fv.key, .string fv.val, .bool fv.is, .bool fv.own, .int .i64 fv.sw, .int .i64 fv.sl, .int .i64 fv.way.id, .int .i64 fv.way.epoch, .int .i64 fv.way.prio, .string fv.way.anchor, .int .i64 fv.way.sw, .int .i64 fv.way.sl, .int .i64 fv.way.bw, .int .i64 fv.way.bl, .slice none 0 0] 42))
          clear hg5 k_0 k_1 k_2 k_3 k_4 k_5 k_6 k_7 k_8 k_9 k_10 k_11 k_12 k_13 k_14 i_0 i_1 i_2 i_3 i_4 i_5 i_6 i_7 i_8
          cases fb with
          | false =>
            have HRes : Hid (foundF R key x = (fv, 0)) := Lib.hid (HFr.out.trans HRst.out)
            go_wp2
            go_quiet (fail)
            replace HZg := Lib.hid (HZg.out.drewN nq)
            go_wp2_with (first
              | (refine wpList_load_row (by rfl) _ _ (by rfl) _ (by rfl) _ _ _ _ HN.out Tryz.underlying42 rfl HI15.out ?_)
              | (refine wpList_store_row (by rfl) _ _ _ (by rfl) _ (fndA fv (.slice none 0 0)) (by rfl) (by rfl) _ _ HZ4.out HI15.out (by rfl) (fnd_one _ _ _ _) ?_))
            refine bodyPost_ret (v := .tuple #[.agg (fndA fv (.slice none 0 0)), .int .i64 0]) ?_ rfl ⟨_, by rw [HRes.out], by rw [HRes.out, HWay.out]; exact rdc_nil _, ⟨below_setRow HZg.out.b (Nat.le_refl _) _⟩⟩
            refine results_row_tmp rfl _ _ w.heap.size 42 (fndA fv (.slice none 0 0)) (0, 0) _ rfl ?_ Tryz.underlying42 rfl HI15.out rfl
            exact setRow_heap _ _ _ _ _ _ HZ4.out
          | true =>
            obtain ⟨W7, hW7⟩ : ∃ W7, W7 = w5.alloc (.cells #[.string fv.key, .string fv.val, .bool fv.is, .bool fv.own, .int .i64 fv.sw, .int .i64 fv.sl, .int .i64 fv.way.id, .int .i64 fv.way.epoch, .int .i64 fv.way.prio, .string fv.way.anchor, .int .i64 fv.way.sw, .int .i64 fv.way.sl, .int .i64 fv.way.bw, .int .i64 fv.way.bl, .slice none 0 0] 42) := ⟨_, rfl⟩
            rw [← hW7] at HZ4 HZg HB5 HN
            have HW7 := Lib.hid hW7
            have hb1 := HB5.out
            unfold rdgC at hb1
            obtain ⟨k_0, k_1, k_2, k_3, k_4, k_5, k_6, k_7, k_8, k_9, k_10, k_11, k_12, k_13, k_14, _, _, _, _, _, _, _, _, _, _, _, _, _, _, _, _⟩ := blk15 hb1
            obtain ⟨n_0, n_1, n_2, n_3, n_4, n_5, n_6, n_7, n_8, n_9, n_10, n_11, n_12, n_13, n_14, _, _, _, _, _, _, _, _, _, _, _, _, _, _, _, _⟩ := blk15 HN.out
            clear hb1 hW7
            cases hl : lessS fv.sw fv.sl x.rw x.rl with
            | true =>
              have HLs := Lib.hid (fun w => less_any fv.sw fv.sl x.rw x.rl w)
              rw [hl] at HLs
              have HRes : Hid (foundF R key x = (fv, 0)) := Lib.hid (by rw [HFr.out, HRst.out, hl]; rfl)
              clear hl
              go_wp2
              rw [← HW7.out]
              go_still_tail 9, (by kernel_rfl)
              clear k_0 k_1 k_2 k_3 k_4 k_5 k_6 k_7 k_8 k_9 k_10 k_11 k_12 k_13 k_14 n_0 n_1 n_2 n_3 n_4 n_5 n_6 n_7 n_8 n_9 n_10 n_11 n_12 n_13 n_14
              go_wp2_with fail
              refine (HLs.out _).mono ?_
              rintro e w8 ⟨rfl, hg8⟩
              have HX8 := Lib.hid ((Gr.refl W7).drew.trans hg8)
              clear hg8
              replace HZ4 := Lib.hid (HX8.out.blk HZ4.out)
              replace HN := Lib.hid (HX8.out.blk HN.out)
              replace HZg := Lib.hid (HZg.out.trans HX8.out)
              go_wp2_with (first
                | (refine wpList_load_row (by rfl) _ _ (by rfl) _ (by rfl) _ _ _ _ HN.out Tryz.underlying42 rfl HI15.out ?_)
                | (refine wpList_store_row (by rfl) _ _ _ (by rfl) _ (fndA fv (.slice none 0 0)) (by rfl) (by rfl) _ _ HZ4.out HI15.out (by rfl) (fnd_one _ _ _ _) ?_))
              refine bodyPost_ret (v := .tuple #[.agg (fndA fv (.slice none 0 0)), .int .i64 0]) ?_ rfl ⟨_, by rw [HRes.out], by rw [HRes.out, HWay.out]; exact rdc_nil _, ⟨below_setRow HZg.out.b (Nat.le_refl _) _⟩⟩
              refine results_row_tmp rfl _ _ w.heap.size 42 (fndA fv (.slice none 0 0)) (0, 0) _ rfl ?_ Tryz.underlying42 rfl HI15.out rfl
              exact setRow_heap _ _ _ _ _ _ HZ4.out
            | false =>
              have HLs := Lib.hid (fun w => less_any fv.sw fv.sl x.rw x.rl w)
              rw [hl] at HLs
              have HRes : Hid (foundF R key x = (⟨key, ⟨#[]⟩, false, false, fv.sw, fv.sl, itt0⟩, 121)) := Lib.hid (by rw [HFr.out, HRst.out, hl]; rfl)
              clear hl
              go_wp2
              rw [← HW7.out]
              go_still_tail 9, (by kernel_rfl)
              clear k_0 k_1 k_2 k_3 k_4 k_5 k_6 k_7 k_8 k_9 k_10 k_11 k_12 k_13 k_14 n_0 n_1 n_2 n_3 n_4 n_5 n_6 n_7 n_8 n_9 n_10 n_11 n_12 n_13 n_14
              go_wp2_with fail
              refine (HLs.out _).mono ?_
              rintro e w8 ⟨rfl, hg8⟩
              have HX8 := Lib.hid ((Gr.refl W7).drew.trans hg8)
              clear hg8
              replace HZ4 := Lib.hid (HX8.out.blk HZ4.out)
              replace HZg := Lib.hid (HZg.out.trans HX8.out)
              obtain ⟨n_0, n_1, n_2, n_3, n_4, n_5, n_6, n_7, n_8, n_9, n_10, n_11, n_12, n_13, n_14, _, _, _, _, _, _, _, _, _, _, _, _, _, _, _, _⟩ := blk15 (HX8.out.blk HN.out)
              go_wp2_with (refine wpList_store_row (by rfl) _ _ _ (by rfl) _ (fndA ⟨key, ⟨#[]⟩, false, false, fv.sw, fv.sl, itt0⟩ (.slice none 0 0)) (by rfl) (by rfl) _ _ HZ4.out HI15.out (by rfl) (fnd_one _ _ _ _) ?_)
              refine bodyPost_ret (v := .tuple #[.agg (fndA ⟨key, ⟨#[]⟩, false, false, fv.sw, fv.sl, itt0⟩ (.slice none 0 0)), .int .i64 121]) ?_ rfl ⟨_, by rw [HRes.out], by rw [HRes.out]; exact rdc_nil _, ⟨below_setRow HZg.out.b (Nat.le_refl _) _⟩⟩
              refine results_row_tmp rfl _ _ w.heap.size 42 (fndA ⟨key, ⟨#[]⟩, false, false, fv.sw, fv.sl, itt0⟩ (.slice none 0 0)) (0, 0) _ rfl ?_ Tryz.underlying42 rfl HI15.out rfl
              exact setRow_heap _ _ _ _ _ _ HZ4.out
    · have hidf : (it.id == x.id) = false := by simpa using hid
      cases hl0 : lessS (topS x).1 (topS x).2 it.sw it.sl with
      | true =>
        have HFr : Hid (foundF R key x = restF R key x) := Lib.hid (by rw [HFr0.out, if_neg hid, hl0]; rfl)
        have HIdf := Lib.hid hidf
        have HLs0 := Lib.hid (fun w => less_any (topS x).1 (topS x).2 it.sw it.sl w)
        rw [hl0] at HLs0
        clear HFr0 hid hidf hl0
        go_wp2_with fail
        rw [← HW1.out]
        have hidf := HIdf.out
        go_quiet (fail)
        go_wp2
        go_quiet (fail)
        go_wp2
        go_quiet (fail)
        go_wp2
        refine wp_world (W1 := W1) ((((Gr.refl W1).drewN _).drewN _).drewN _) (fun W9 hg9 => ?_)
        clear k_0 k_1 k_2 k_3 k_4 k_5 k_6 k_7 k_8 k_9 k_10 k_11 k_12 k_13 k_14 i_0 i_1 i_2 i_3 i_4 i_5 i_6 i_7 i_8
        obtain ⟨i_0, i_1, i_2, i_3, i_4, i_5, i_6, i_7, i_8, _, _, _, _, _, _, _, _, _, _⟩ := blk9 (hg9.blk HIt.out)
        have hb9 := hg9.blk (HXi.out.blk HB.out)
        unfold rdgC at hb9
        obtain ⟨k_0, k_1, k_2, k_3, k_4, k_5, k_6, k_7, k_8, k_9, k_10, k_11, k_12, k_13, k_14, _, _, _, _, _, _, _, _, _, _, _, _, _, _, _, _⟩ := blk15 hb9
        have HX9 := Lib.hid hg9
        clear hb9 hg9
        go_still_tail 12, (by kernel_rfl)
        go_wp2_with fail
        refine (HLs0.out _).mono ?_
        rintro e w4 ⟨rfl, hg4⟩
        have HXv : Hid (Gr W1 w4) := Lib.hid (HX9.out.trans ((Gr.refl W9).drew.trans hg4))
        clear hg4
        go_wp2_with fail
        refine (HVer.out _ (HXd.out _ HXv.out)).mono ?_
        rintro e w5 ⟨rfl, hg5⟩
        have HX5 := Lib.hid ((HXi.out.trans HXv.out).trans hg5)
        have HZ4 := Lib.hid ((HXv.out.trans (hg5.alloc (.cells #[.string fv.key, .string fv.val, .bool fv.is, .bool fv.own, .int .i64 fv.sw, .int .i64 fv.sl, .int .i64 fv.way.id, .int .i64 fv.way.epoch, .int .i64 fv.way.prio, .string fv.way.anchor, .int .i64 fv.way.sw, .int .i64 fv.way.sl, .int .i64 fv.way.bw, .int .i64 fv.way.bl, .slice none 0 0] 42))).blk H4.out)
        have HZg := Lib.hid (HX5.out.alloc (.cells #[.string fv.key, .string fv.val, .bool fv.is, .bool fv.own, .int .i64 fv.sw, .int .i64 fv.sl, .int .i64 fv.way.id, .int .i64 fv.way.epoch, .int .i64 fv.way.prio, .string fv.way.anchor, .int .i64 fv.way.sw, .int .i64 fv.way.sl, .int .i64 fv.way.bw, .int .i64 fv.way.bl, .slice none 0 0] 42))
        have HB5 := Lib.hid (HZg.out.blk HB.out)
        have HN := Lib.hid (heap_alloc_new w5 (.cells #[.string fv.key, .string fv.val, .bool fv.is, .bool fv.own, .int .i64 fv.sw, .int .i64 fv.sl, .int .i64 fv.way.id, .int .i64 fv.way.epoch, .int .i64 fv.way.prio, .string fv.way.anchor, .int .i64 fv.way.sw, .int .i64 fv.way.sl, .int .i64 fv.way.bw, .int .i64 fv.way.bl, .slice none 0 0] 42))
        clear hg5 k_0 k_1 k_2 k_3 k_4 k_5 k_6 k_7 k_8 k_9 k_10 k_11 k_12 k_13 k_14 i_0 i_1 i_2 i_3 i_4 i_5 i_6 i_7 i_8
        cases fb with
        | false =>
          have HRes : Hid (foundF R key x = (fv, 0)) := Lib.hid (HFr.out.trans HRst.out)
          go_wp2
          go_quiet (fail)
          replace HZg := Lib.hid (HZg.out.drewN nq)
          go_wp2_with (first
            | (refine wpList_load_row (by rfl) _ _ (by rfl) _ (by rfl) _ _ _ _ HN.out Tryz.underlying42 rfl HI15.out ?_)
            | (refine wpList_store_row (by rfl) _ _ _ (by rfl) _ (fndA fv (.slice none 0 0)) (by rfl) (by rfl) _ _ HZ4.out HI15.out (by rfl) (fnd_one _ _ _ _) ?_))
          refine bodyPost_ret (v := .tuple #[.agg (fndA fv (.slice none 0 0)), .int .i64 0]) ?_ rfl ⟨_, by rw [HRes.out], by rw [HRes.out, HWay.out]; exact rdc_nil _, ⟨below_setRow HZg.out.b (Nat.le_refl _) _⟩⟩
          refine results_row_tmp rfl _ _ w.heap.size 42 (fndA fv (.slice none 0 0)) (0, 0) _ rfl ?_ Tryz.underlying42 rfl HI15.out rfl
          exact setRow_heap _ _ _ _ _ _ HZ4.out
        | true =>
          obtain ⟨W7, hW7⟩ : ∃ W7, W7 = w5.alloc (.cells #[.string fv.key, .string fv.val, .bool fv.is, .bool fv.own, .int .i64 fv.sw, .int .i64 fv.sl, .int .i64 fv.way.id, .int .i64 fv.way.epoch, .int .i64 fv.way.prio, .string fv.way.anchor, .int .i64 fv.way.sw, .int .i64 fv.way.sl, .int .i64 fv.way.bw, .int .i64 fv.way.bl, .slice none 0 0] 42) := ⟨_, rfl⟩
          rw [← hW7] at HZ4 HZg HB5 HN
          have HW7 := Lib.hid hW7
          have hb1 := HB5.out
          unfold rdgC at hb1
          obtain ⟨k_0, k_1, k_2, k_3, k_4, k_5, k_6, k_7, k_8, k_9, k_10, k_11, k_12, k_13, k_14, _, _, _, _, _, _, _, _, _, _, _, _, _, _, _, _⟩ := blk15 hb1
          obtain ⟨n_0, n_1, n_2, n_3, n_4, n_5, n_6, n_7, n_8, n_9, n_10, n_11, n_12, n_13, n_14, _, _, _, _, _, _, _, _, _, _, _, _, _, _, _, _⟩ := blk15 HN.out
          clear hb1 hW7
          cases hl : lessS fv.sw fv.sl x.rw x.rl with
          | true =>
            have HLs := Lib.hid (fun w => less_any fv.sw fv.sl x.rw x.rl w)
            rw [hl] at HLs
            have HRes : Hid (foundF R key x = (fv, 0)) := Lib.hid (by rw [HFr.out, HRst.out, hl]; rfl)
            clear hl
            go_wp2
            rw [← HW7.out]
            go_still_tail 9, (by kernel_rfl)
            clear k_0 k_1 k_2 k_3 k_4 k_5 k_6 k_7 k_8 k_9 k_10 k_11 k_12 k_13 k_14 n_0 n_1 n_2 n_3 n_4 n_5 n_6 n_7 n_8 n_9 n_10 n_11 n_12 n_13 n_14
            go_wp2_with fail
            refine (HLs.out _).mono ?_
            rintro e w8 ⟨rfl, hg8⟩
            have HX8 := Lib.hid ((Gr.refl W7).drew.trans hg8)
            clear hg8
            replace HZ4 := Lib.hid (HX8.out.blk HZ4.out)
            replace HN := Lib.hid (HX8.out.blk HN.out)
            replace HZg := Lib.hid (HZg.out.trans HX8.out)
            go_wp2_with (first
              | (refine wpList_load_row (by rfl) _ _ (by rfl) _ (by rfl) _ _ _ _ HN.out Tryz.underlying42 rfl HI15.out ?_)
              | (refine wpList_store_row (by rfl) _ _ _ (by rfl) _ (fndA fv (.slice none 0 0)) (by rfl) (by rfl) _ _ HZ4.out HI15.out (by rfl) (fnd_one _ _ _ _) ?_))
            refine bodyPost_ret (v := .tuple #[.agg (fndA fv (.slice none 0 0)), .int .i64 0]) ?_ rfl ⟨_, by rw [HRes.out], by rw [HRes.out, HWay.out]; exact rdc_nil _, ⟨below_setRow HZg.out.b (Nat.le_refl _) _⟩⟩
            refine results_row_tmp rfl _ _ w.heap.size 42 (fndA fv (.slice none 0 0)) (0, 0) _ rfl ?_ Tryz.underlying42 rfl HI15.out rfl
            exact setRow_heap _ _ _ _ _ _ HZ4.out
          | false =>
            have HLs := Lib.hid (fun w => less_any fv.sw fv.sl x.rw x.rl w)
            rw [hl] at HLs
            have HRes : Hid (foundF R key x = (⟨key, ⟨#[]⟩, false, false, fv.sw, fv.sl, itt0⟩, 121)) := Lib.hid (by rw [HFr.out, HRst.out, hl]; rfl)
            clear hl
            go_wp2
            rw [← HW7.out]
            go_still_tail 9, (by kernel_rfl)
            clear k_0 k_1 k_2 k_3 k_4 k_5 k_6 k_7 k_8 k_9 k_10 k_11 k_12 k_13 k_14 n_0 n_1 n_2 n_3 n_4 n_5 n_6 n_7 n_8 n_9 n_10 n_11 n_12 n_13 n_14
            go_wp2_with fail
            refine (HLs.out _).mono ?_
            rintro e w8 ⟨rfl, hg8⟩
            have HX8 := Lib.hid ((Gr.refl W7).drew.trans hg8)
            clear hg8
            replace HZ4 := Lib.hid (HX8.out.blk HZ4.out)
            replace HZg := Lib.hid (HZg.out.trans HX8.out)
            obtain ⟨n_0, n_1, n_2, n_3, n_4, n_5, n_6, n_7, n_8, n_9, n_10, n_11, n_12, n_13, n_14, _, _, _, _, _, _, _, _, _, _, _, _, _, _, _, _⟩ := blk15 (HX8.out.blk HN.out)
            go_wp2_with (refine wpList_store_row (by rfl) _ _ _ (by rfl) _ (fndA ⟨key, ⟨#[]⟩, false, false, fv.sw, fv.sl, itt0⟩ (.slice none 0 0)) (by rfl) (by rfl) _ _ HZ4.out HI15.out (by rfl) (fnd_one _ _ _ _) ?_)
            refine bodyPost_ret (v := .tuple #[.agg (fndA ⟨key, ⟨#[]⟩, false, false, fv.sw, fv.sl, itt0⟩ (.slice none 0 0)), .int .i64 121]) ?_ rfl ⟨_, by rw [HRes.out], by rw [HRes.out]; exact rdc_nil _, ⟨below_setRow HZg.out.b (Nat.le_refl _) _⟩⟩
            refine results_row_tmp rfl _ _ w.heap.size 42 (fndA ⟨key, ⟨#[]⟩, false, false, fv.sw, fv.sl, itt0⟩ (.slice none 0 0)) (0, 0) _ rfl ?_ Tryz.underlying42 rfl HI15.out rfl
            exact setRow_heap _ _ _ _ _ _ HZ4.out
      | false =>
        have HRes : Hid (foundF R key x = (⟨key, ⟨#[]⟩, false, false, 0, 0, it⟩, 120)) := Lib.hid (by rw [HFr0.out, if_neg hid, hl0]; rfl)
        have HIdf := Lib.hid hidf
        have HLs0 := Lib.hid (fun w => less_any (topS x).1 (topS x).2 it.sw it.sl w)
        rw [hl0] at HLs0
        clear HFr0 hid hidf hl0
        go_wp2_with fail
        rw [← HW1.out]
        have hidf := HIdf.out
        go_quiet (fail)
        go_wp2
        go_quiet (fail)
        go_wp2
        go_quiet (fail)
        go_wp2
        refine wp_world (W1 := W1) ((((Gr.refl W1).drewN _).drewN _).drewN _) (fun W9 hg9 => ?_)
        clear k_0 k_1 k_2 k_3 k_4 k_5 k_6 k_7 k_8 k_9 k_10 k_11 k_12 k_13 k_14 i_0 i_1 i_2 i_3 i_4 i_5 i_6 i_7 i_8
        obtain ⟨i_0, i_1, i_2, i_3, i_4, i_5, i_6, i_7, i_8, _, _, _, _, _, _, _, _, _, _⟩ := blk9 (hg9.blk HIt.out)
        have hb9 := hg9.blk (HXi.out.blk HB.out)
        unfold rdgC at hb9
        obtain ⟨k_0, k_1, k_2, k_3, k_4, k_5, k_6, k_7, k_8, k_9, k_10, k_11, k_12, k_13, k_14, _, _, _, _, _, _, _, _, _, _, _, _, _, _, _, _⟩ := blk15 hb9
        have HX9 := Lib.hid hg9
        clear hb9 hg9
        go_still_tail 12, (by kernel_rfl)
        go_wp2_with fail
        refine (HLs0.out _).mono ?_
        rintro e w4 ⟨rfl, hg4⟩
        have HXv : Hid (Gr W1 w4) := Lib.hid (HX9.out.trans ((Gr.refl W9).drew.trans hg4))
        clear hg4
        clear k_0 k_1 k_2 k_3 k_4 k_5 k_6 k_7 k_8 k_9 k_10 k_11 k_12 k_13 k_14 i_0 i_1 i_2 i_3 i_4 i_5 i_6 i_7 i_8
        have HN := Lib.hid (HXv.out.blk HIt.out)
        have HZ4 := Lib.hid (HXv.out.blk H4.out)
        have HZg := Lib.hid (HXi.out.trans HXv.out)
        have HI9 : Hid ((Tryz.prog.info? 40).map (·.size) = some 9) := Lib.hid (by kernel_rfl)
        have hX1 : Gr w1 W1 := by rw [HW1.out]; exact (Gr.refl _).alloc _
        have HRf := Lib.hid (chg_kept (w' := w4.setRow w.heap.size (fndA ⟨key, ⟨#[]⟩, false, false, 0, 0, it⟩ (.slice vq vz vc))) (HRd.out.gr (hX1.trans HXv.out)) (Nat.le_of_eq (size_setRow _ _ _).symm) (fun k o hk ho => by rw [setRow_other _ _ _ _ hk]; exact ho) HZ4.out (by
          intro i z s q ⟨h1, h2, h3⟩
          match i with
          | 0 | 1 | 2 | 3 | 4 | 5 | 6 | 7 | 8 | 9 | 10 | 11 | 12 | 13 | 14 => simp at h1 h2 h3
          | n + 15 => simp at h1))
        clear hX1
        go_wp2_with (first
          | (refine wpList_load_row (by rfl) _ _ (by rfl) _ (by rfl) _ _ _ _ HN.out Tryz.underlying40 rfl HI9.out ?_)
          | (refine wpList_store_row (by rfl) _ _ _ (by rfl) _ (fndA ⟨key, ⟨#[]⟩, false, false, 0, 0, it⟩ (.slice vq vz vc)) (by rfl) (by rfl) _ _ HZ4.out HI15.out (by rfl) (fnd_one _ _ _ _) ?_))
        refine bodyPost_ret (v := .tuple #[.agg (fndA ⟨key, ⟨#[]⟩, false, false, 0, 0, it⟩ (.slice vq vz vc)), .int .i64 120]) ?_ rfl ⟨_, by rw [HRes.out], by rw [HRes.out]; exact HRf.out, ⟨below_setRow HZg.out.b (Nat.le_refl _) _⟩⟩
        refine results_row_tmp rfl _ _ w.heap.size 42 (fndA ⟨key, ⟨#[]⟩, false, false, 0, 0, it⟩ (.slice vq vz vc)) (0, 0) _ rfl ?_ Tryz.underlying42 rfl HI15.out rfl
        exact setRow_heap _ _ _ _ _ _ HZ4.out

end Go.Proofs.YthgecojbggoniaaGreatDoor
