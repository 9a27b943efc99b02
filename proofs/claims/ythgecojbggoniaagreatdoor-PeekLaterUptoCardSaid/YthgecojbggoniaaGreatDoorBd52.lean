/- What the rows stand on, part 52: PekV. Printed by bundle.py out of my texts. -/
import Derived.Test.YthgecojbggoniaaGreatDoorBd46
import Derived.Test.YthgecojbggoniaaGreatDoorBd51
namespace Go.Proofs.YthgecojbggoniaaGreatDoor
open Go.RowKit
set_option maxRecDepth 100000
set_option linter.unusedVariables false
set_option linter.unusedSimpArgs false
set_option linter.unnecessarySimpa false

theorem lawLess12 (a b c d : Int) (w : World) : Calls Tryz.prog 8 #[.agg #[.int .i64 a, .int .i64 b], .agg #[.int .i64 c, .int .i64 d]] w fun e w' => e = .returned (.bool (lessS a b c d)) ∧ Gr w w' := by
  unfold lessS
  by_cases h1 : a < c
  · go_enter Tryz.func8, Tryz.ntmps8
    go_wp2
    go_ret
    exact ⟨ret_bool (by simp [h1]), (by repeat (first | (with_reducible exact Gr.refl _) | (with_reducible assumption) | (with_reducible refine Gr.alloc ?_ _) | (with_reducible refine Gr.drew ?_) | (with_reducible refine Gr.drewN ?_ _) | (with_reducible refine Gr.trans ?_ (by assumption)) | (with_reducible refine Gr.setCell ?_ (by first | exact Nat.le_refl _ | omega | (simp; done) | (simp; omega)) _)))⟩
  · by_cases h2 : a = c
    · by_cases h3 : b < d
      · go_enter Tryz.func8, Tryz.ntmps8
        go_wp2
        go_ret
        exact ⟨ret_bool (by simp [h1, h2, h3]), (by repeat (first | (with_reducible exact Gr.refl _) | (with_reducible assumption) | (with_reducible refine Gr.alloc ?_ _) | (with_reducible refine Gr.drew ?_) | (with_reducible refine Gr.drewN ?_ _) | (with_reducible refine Gr.trans ?_ (by assumption)) | (with_reducible refine Gr.setCell ?_ (by first | exact Nat.le_refl _ | omega | (simp; done) | (simp; omega)) _)))⟩
      · go_enter Tryz.func8, Tryz.ntmps8
        go_wp2
        go_ret
        exact ⟨ret_bool (by simp [h1, h2, h3]), (by repeat (first | (with_reducible exact Gr.refl _) | (with_reducible assumption) | (with_reducible refine Gr.alloc ?_ _) | (with_reducible refine Gr.drew ?_) | (with_reducible refine Gr.drewN ?_ _) | (with_reducible refine Gr.trans ?_ (by assumption)) | (with_reducible refine Gr.setCell ?_ (by first | exact Nat.le_refl _ | omega | (simp; done) | (simp; omega)) _)))⟩
    · go_enter Tryz.func8, Tryz.ntmps8
      go_wp2
      go_ret
      exact ⟨ret_bool (by simp [h1, h2]), (by repeat (first | (with_reducible exact Gr.refl _) | (with_reducible assumption) | (with_reducible refine Gr.alloc ?_ _) | (with_reducible refine Gr.drew ?_) | (with_reducible refine Gr.drewN ?_ _) | (with_reducible refine Gr.trans ?_ (by assumption)) | (with_reducible refine Gr.setCell ?_ (by first | exact Nat.le_refl _ | omega | (simp; done) | (simp; omega)) _)))⟩
theorem lawMay12 (x : Tx) (w : World) : Calls Tryz.prog 9 #[.agg (txC x)] w fun e w' => e = .returned (.bool (mayT x)) ∧ Gr w w' := by
  have HM := Lib.hid (refMay12 x)
  have hb := heap_alloc_new w (.cells (txC x) 28)
  unfold txC at hb HM ⊢
  obtain ⟨k_0, k_1, k_2, k_3, k_4, k_5, k_6, k_7, k_8, k_9, k_10, k_11, _, _, _, _, _, _, _, _, _, _, _, _, _⟩ := blk12 hb
  clear hb
  go_enter Tryz.func9, Tryz.ntmps9
  go_wp2_with (go_at_call 30; refine (HM.out _).mono ?_; rintro e w1 ⟨rfl, hg1⟩)
  go_ret
  exact ⟨rfl, (by repeat (first | (with_reducible exact Gr.refl _) | (with_reducible assumption) | (with_reducible refine Gr.alloc ?_ _) | (with_reducible refine Gr.drew ?_) | (with_reducible refine Gr.drewN ?_ _) | (with_reducible refine Gr.trans ?_ (by assumption)) | (with_reducible refine Gr.setCell ?_ (by first | exact Nat.le_refl _ | omega | (simp; done) | (simp; omega)) _)))⟩
/-- whether a version lies between, as far as the loop has come -/
def betwP (x : Tx) (s1 s2 : Int) (v : Rw) : Bool := !lessS (sa v) (sb v) x.rw x.rl && lessS (sa v) (sb v) s1 s2
theorem any_take {V : List Rw} {p : Rw → Bool} {k : Nat} (hk : k < V.length) : (V.take (k + 1)).any p = ((V.take k).any p || p V[k]) := by
  rw [List.take_succ_eq_append_getElem hk, List.any_append]
  simp
set_option maxHeartbeats 16000000 in
theorem peekLater_walk {w : World} {v : Value} {l : List Th} (hw : Sh w) (hl : RdT w v l) (hlen : l.length ≤ 140737488355328) (hit : ∀ x ∈ l, x.it.l.length ≤ 140737488355328) (hsz : ∀ c ∈ l, SzT c) (key fr hi : ByteArray) (x : Tx) (a b s1 s2 : Int) :
    Calls Tryz.prog 3 #[v, .agg (askC key fr hi x a b), .agg #[.int .i64 s1, .int .i64 s2]] w fun e w' => e = .returned (.bool true) ∧ Gr w w' := by
  have HSh := Lib.hid hw
  have HL := Lib.hid hl
  have HIt := Lib.hid hit
  have HSz := Lib.hid (tab_szs hsz)
  have HG := Lib.hid (((Gr.refl w).alloc (.cells (askC key fr hi x a b) 30)).alloc (.cells #[.int .i64 s1, .int .i64 s2] 26))
  have HAk := Lib.hid (((Gr.refl _).alloc (.cells #[.int .i64 s1, .int .i64 s2] 26)).blk (heap_alloc_new w (.cells (askC key fr hi x a b) 30)))
  have HSb : Hid (((w.alloc (.cells (askC key fr hi x a b) 30)).alloc (.cells #[.int .i64 s1, .int .i64 s2] 26)).heap[w.heap.size + 1]? = some (.cells #[.int .i64 s1, .int .i64 s2] 26)) := Lib.hid (heap_newn (by simp))
  have HR60 := Lib.hid (tab60 l)
  have HLs := Lib.hid (lawLess12 s1 s2 x.rw x.rl)
  have HMy := Lib.hid (lawMay12 (laterX x s1 s2))
  clear hw hl hit hsz
  unfold askC
  go_enter Tryz.func3, Tryz.ntmps3
  go_wp2_with fail
  refine (tables12 (HL.out.gr HG.out) hlen HIt.out).mono ?_
  rintro e w1 ⟨ta, tb, rfl, hT, hg⟩
  replace HG := Lib.hid (HG.out.trans hg)
  replace HAk := Lib.hid (hg.blk HAk.out)
  replace HSb := Lib.hid (hg.blk HSb.out)
  have HT := Lib.hid hT
  clear hg hT HL HIt
  generalize tabR (opsT l) = R at *
  have HRi := Lib.hid (tab_first HT.out.a)
  have hask := HAk.out
  unfold askC at hask
  obtain ⟨a_0, a_1, a_2, a_3, a_4, a_5, a_6, a_7, a_8, a_9, a_10, a_11, a_12, a_13, a_14, a_15, a_16, _, _, _, _, _, _, _, _, _, _, _, _, _, _, _, _, _, _⟩ := blk17 hask
  clear hask
  obtain ⟨s_0, s_1, _, _, _⟩ := blk2 HSb.out
  go_wp2_with fail
  refine calls_gen (fun w2 hgX => ?_)
  have hgY := ((Gr.refl w1).alloc _).trans hgX
  replace HG := Lib.hid (HG.out.trans hgY)
  replace HAk := Lib.hid (hgY.blk HAk.out)
  replace HSb := Lib.hid (hgY.blk HSb.out)
  replace HT := Lib.hid (HT.out.gr hgY)
  have HY := Lib.hid (hgX.blk (heap_alloc_new w1 (.cells (txC (laterX x s1 s2)) 28)))
  clear hgX hgY
  clear a_0 a_1 a_2 a_3 a_4 a_5 a_6 a_7 a_8 a_9 a_10 a_11 a_12 a_13 a_14 a_15 a_16
  clear s_0 s_1
  generalize w1.heap.size = yb at *
  cases hl : lessS s1 s2 x.rw x.rl with
  | true =>
    rw [hl] at HLs
    refine (HLs.out _).mono ?_
    rintro e w3 ⟨rfl, hg⟩
    replace HG := Lib.hid (HG.out.trans hg)
    replace HAk := Lib.hid (hg.blk HAk.out)
    replace HSb := Lib.hid (hg.blk HSb.out)
    replace HT := Lib.hid (HT.out.gr hg)
    replace HY := Lib.hid (hg.blk HY.out)
    clear hg
    go_wp2_with fail
    refine (awake12 (HSh.out.gr HG.out)).mono ?_
    rintro e wz ⟨rfl, hg⟩
    go_wp2
    go_ret
    exact ⟨rfl, HG.out.trans hg⟩
  | false =>
    rw [hl] at HLs
    have HSame := Lib.hid (later_same HRi.out (key := key) (a := a) (b := b) hl)
    clear hl
    refine (HLs.out _).mono ?_
    rintro e w3 ⟨rfl, hg⟩
    replace HG := Lib.hid (HG.out.trans hg)
    replace HAk := Lib.hid (hg.blk HAk.out)
    replace HSb := Lib.hid (hg.blk HSb.out)
    replace HT := Lib.hid (HT.out.gr hg)
    replace HY := Lib.hid (hg.blk HY.out)
    clear hg
    have hyb := HY.out
    unfold laterX txC at hyb
    obtain ⟨y_0, y_1, y_2, y_3, y_4, y_5, y_6, y_7, y_8, y_9, y_10, y_11, _, _, _, _, _, _, _, _, _, _, _, _, _⟩ := blk12 hyb
    clear hyb
    cases hm : mayT (laterX x s1 s2) with
    | false =>
      rw [hm] at HMy
      go_wp2_with fail
      refine (HMy.out _).mono ?_
      rintro e w4 ⟨rfl, hg⟩
      replace HG := Lib.hid (HG.out.trans hg)
      replace HAk := Lib.hid (hg.blk HAk.out)
      replace HSb := Lib.hid (hg.blk HSb.out)
      replace HT := Lib.hid (HT.out.gr hg)
      replace HY := Lib.hid (hg.blk HY.out)
      clear hg
      clear y_0 y_1 y_2 y_3 y_4 y_5 y_6 y_7 y_8 y_9 y_10 y_11
      go_wp2_with fail
      refine (awake12 (HSh.out.gr HG.out)).mono ?_
      rintro e wz ⟨rfl, hg⟩
      go_wp2
      go_ret
      exact ⟨rfl, HG.out.trans hg⟩
    | true =>
      rw [hm] at HMy
      go_wp2_with fail
      refine (HMy.out _).mono ?_
      rintro e w4 ⟨rfl, hg⟩
      replace HG := Lib.hid (HG.out.trans hg)
      replace HAk := Lib.hid (hg.blk HAk.out)
      replace HSb := Lib.hid (hg.blk HSb.out)
      replace HT := Lib.hid (HT.out.gr hg)
      replace HY := Lib.hid (hg.blk HY.out)
      clear hg hm HMy HLs
      clear y_0 y_1 y_2 y_3 y_4 y_5 y_6 y_7 y_8 y_9 y_10 y_11
      have hask := HAk.out
      unfold askC at hask
      obtain ⟨a_0, a_1, a_2, a_3, a_4, a_5, a_6, a_7, a_8, a_9, a_10, a_11, a_12, a_13, a_14, a_15, a_16, _, _, _, _, _, _, _, _, _, _, _, _, _, _, _, _, _, _⟩ := blk17 hask
      clear hask
      have HGt := Lib.hid (get12 (HSh.out.gr HG.out) HT.out.a (szw HSz.out) HSz.out key x a b)
      have HW1y := Lib.hid (getF_way R key x a b)
      have HGu := Lib.hid (fun (S : Nat → Prop) (W : World) (hs : Sh W) (ht : TabAt ta S R W) => get12 hs ht (szw HSz.out) HSz.out key (laterX x s1 s2) a b)
      have HW2y := Lib.hid (getF_way R key (laterX x s1 s2) a b)
      generalize getF R key x a b = gg1 at *
      generalize getF R key (laterX x s1 s2) a b = gg2 at *
      obtain ⟨⟨fk, fv, fi, fo, fsw, fsl, fway⟩, e1⟩ := gg1
      obtain ⟨g, e2⟩ := gg2
      simp only at HSame HGt HGu HW1y HW2y
      unfold laterX txC at HGu
      unfold txC at HGt
      simp only at HGu
      go_wp2_with fail
      refine (HGt.out).mono ?_
      rintro e w5 ⟨vl, rfl, hrd, hg⟩
      replace HG := Lib.hid (HG.out.trans hg)
      replace HAk := Lib.hid (hg.blk HAk.out)
      replace HSb := Lib.hid (hg.blk HSb.out)
      replace HT := Lib.hid (HT.out.gr hg)
      replace HY := Lib.hid (hg.blk HY.out)
      obtain ⟨q1, n1, c1, rfl⟩ := rdc_slice hrd
      have HW1 := Lib.hid hrd
      clear hg hrd HGt
      unfold fndA
      dsimp only
      clear a_0 a_1 a_2 a_3 a_4 a_5 a_6 a_7 a_8 a_9 a_10 a_11 a_12 a_13 a_14 a_15 a_16
      have hak5 := HAk.out
      unfold askC at hak5
      have z_0 := ((Gr.refl w5).alloc (.cells (fndA ⟨fk, fv, fi, fo, fsw, fsl, fway⟩ (.slice q1 n1 c1)) 42)).cell' (cell_of hak5 (i := 0) rfl)
      have z_15 := ((Gr.refl w5).alloc (.cells (fndA ⟨fk, fv, fi, fo, fsw, fsl, fway⟩ (.slice q1 n1 c1)) 42)).cell' (cell_of hak5 (i := 15) rfl)
      have z_16 := ((Gr.refl w5).alloc (.cells (fndA ⟨fk, fv, fi, fo, fsw, fsl, fway⟩ (.slice q1 n1 c1)) 42)).cell' (cell_of hak5 (i := 16) rfl)
      clear hak5
      have hy5 := ((Gr.refl w5).alloc (.cells (fndA ⟨fk, fv, fi, fo, fsw, fsl, fway⟩ (.slice q1 n1 c1)) 42)).blk HY.out
      unfold txC laterX at hy5
      unfold fndA at z_0 z_15 z_16 hy5
      dsimp only at z_0 z_15 z_16 hy5
      obtain ⟨y_0, y_1, y_2, y_3, y_4, y_5, y_6, y_7, y_8, y_9, y_10, y_11, _, _, _, _, _, _, _, _, _, _, _, _, _⟩ := blk12 hy5
      clear hy5
      go_wp2_with fail
      refine calls_gen (fun w6 hgX => ?_)
      have hgY := ((Gr.refl w5).alloc _).trans hgX
      replace HG := Lib.hid (HG.out.trans hgY)
      replace HAk := Lib.hid (hgY.blk HAk.out)
      replace HSb := Lib.hid (hgY.blk HSb.out)
      replace HT := Lib.hid (HT.out.gr hgY)
      replace HY := Lib.hid (hgY.blk HY.out)
      replace HW1 := Lib.hid (RdC.gr HW1.out hgY)
      have HF1 := Lib.hid (hgX.blk (heap_alloc_new w5 (.cells (fndA ⟨fk, fv, fi, fo, fsw, fsl, fway⟩ (.slice q1 n1 c1)) 42)))
      clear hgX hgY
      clear y_0 y_1 y_2 y_3 y_4 y_5 y_6 y_7 y_8 y_9 y_10 y_11
      clear z_0 z_15 z_16
      generalize w5.heap.size = fb at *
      refine (HGu.out _ _ (HSh.out.gr HG.out) HT.out.a).mono ?_
      rintro e w7 ⟨vl, rfl, hrd, hg⟩
      replace HG := Lib.hid (HG.out.trans hg)
      replace HAk := Lib.hid (hg.blk HAk.out)
      replace HSb := Lib.hid (hg.blk HSb.out)
      replace HT := Lib.hid (HT.out.gr hg)
      replace HY := Lib.hid (hg.blk HY.out)
      replace HW1 := Lib.hid (RdC.gr HW1.out hg)
      replace HF1 := Lib.hid (hg.blk HF1.out)
      obtain ⟨q2, n2, c2, rfl⟩ := rdc_slice hrd
      have HW2 := Lib.hid hrd
      clear hg hrd HGu
      unfold fndA
      have hgn := (Gr.refl w7).alloc (.cells (fndA g (.slice q2 n2 c2)) 42)
      have HF2 := Lib.hid (heap_alloc_new w7 (.cells (fndA g (.slice q2 n2 c2)) 42))
      replace HG := Lib.hid (HG.out.trans hgn)
      replace HAk := Lib.hid (hgn.blk HAk.out)
      replace HSb := Lib.hid (hgn.blk HSb.out)
      replace HT := Lib.hid (HT.out.gr hgn)
      replace HY := Lib.hid (hgn.blk HY.out)
      replace HW1 := Lib.hid (RdC.gr HW1.out hgn)
      replace HF1 := Lib.hid (hgn.blk HF1.out)
      replace HW2 := Lib.hid (RdC.gr HW2.out hgn)
      unfold fndA at hgn
      clear hgn
      by_cases he1 : e1 = 0
      · subst he1
        by_cases he2 : e2 = 0
        · subst he2
          unfold fndA at *
          dsimp only at *
          have hask := HAk.out
          unfold askC at hask
          obtain ⟨a_0, a_1, a_2, a_3, a_4, a_5, a_6, a_7, a_8, a_9, a_10, a_11, a_12, a_13, a_14, a_15, a_16, _, _, _, _, _, _, _, _, _, _, _, _, _, _, _, _, _, _⟩ := blk17 hask
          clear hask
          go_wp2_with fail
          refine (refVersions_any HT.out.b (Nat.le_trans HR60.out (by decide)) HSz.out key).mono ?_
          rintro e w8 ⟨vv, rfl, hown, hg⟩
          replace HG := Lib.hid (HG.out.trans hg)
          replace HAk := Lib.hid (hg.blk HAk.out)
          replace HSb := Lib.hid (hg.blk HSb.out)
          replace HT := Lib.hid (HT.out.gr hg)
          replace HY := Lib.hid (hg.blk HY.out)
          replace HW1 := Lib.hid (RdC.gr HW1.out hg)
          replace HF1 := Lib.hid (hg.blk HF1.out)
          replace HW2 := Lib.hid (RdC.gr HW2.out hg)
          replace HF2 := Lib.hid (hg.blk HF2.out)
          obtain ⟨vq, vc, rfl⟩ := RdVer.form hown
          have HVs := Lib.hid hown
          clear hg hown
          clear a_0 a_1 a_2 a_3 a_4 a_5 a_6 a_7 a_8 a_9 a_10 a_11 a_12 a_13 a_14 a_15 a_16
          have HBt : Hid (betwB R key x s1 s2 = (versR R key).any (betwP x s1 s2)) := Lib.hid rfl
          generalize versR R key = V at *
          have hlenv := fun W ty => len_vers (w := W) (q := vq) (n := V.length) (c := vc) (ty := ty)
          go_wp2
          go_loopw [14, 16] (fun bt iv wr => ∃ k : Nat, iv = .int .i64 k ∧ k ≤ V.length ∧ bt = .bool ((V.take k).any (betwP x s1 s2)) ∧ Hid (Gr w8 wr)) (fun _ iv _ => V.length - (intOf iv).toNat)
          case atStart => exact ⟨0, rfl, Nat.zero_le _, rfl, Lib.hid (Gr.refl _)⟩
          case round =>
            obtain ⟨k, rfl, hk, rfl, HGr⟩ := hrel
            by_cases hkl : k < V.length
            · obtain ⟨bk, of, rfl, p1, p2, c0, c1, c2, c3⟩ := ver_at (OwnG.gr HGr.out HVs.out) hkl
              have HAr := Lib.hid (HGr.out.blk HAk.out)
              have HSr := Lib.hid (HGr.out.blk HSb.out)
              have HNx := Lib.hid (any_take (p := betwP x s1 s2) hkl)
              have HPv : Hid (betwP x s1 s2 V[k] = (!lessS (sa V[k]) (sb V[k]) x.rw x.rl && lessS (sa V[k]) (sb V[k]) s1 s2)) := Lib.hid rfl
              have HL1 := Lib.hid (lawLess12 (sa V[k]) (sb V[k]) x.rw x.rl)
              have HL2 := Lib.hid (lawLess12 (sa V[k]) (sb V[k]) s1 s2)
              unfold askC at HAr
              generalize (V.take k).any (betwP x s1 s2) = bt at *
              generalize betwP x s1 s2 V[k] = pv at *
              cases bt with
              | true =>
                go_wp2
                refine wp_region_held_drew (S := fun w' => Gr wr.drew w') (by kernel_rfl) (Gr.refl _) (fun hHeld => ?_)
                try dsimp only at hHeld
                refine wpAnyH_take (i := 0) rfl (by kernel_rfl) (by kernel_rfl) (by kernel_rfl) (fun _ _ _ h => h) (Or.inl ⟨by rfl, by intro w hSw; (try dsimp only at hSw); go_simp; (try with_reducible rfl)⟩) (by assumption) ?_; (try simp only [Act.put, List.setIfInBounds_toArray, List.set_cons_zero, List.set_cons_succ, List.getElem_toArray, List.getElem_cons_zero, List.getElem_cons_succ])
                refine wpAnyH_take (i := 1) rfl (by kernel_rfl) (by kernel_rfl) (by kernel_rfl) (fun _ _ _ h => h) (Or.inl ⟨by rfl, by intro w hSw; (try dsimp only at hSw); go_simp; (try with_reducible rfl)⟩) (by assumption) ?_; (try simp only [Act.put, List.setIfInBounds_toArray, List.set_cons_zero, List.set_cons_succ, List.getElem_toArray, List.getElem_cons_zero, List.getElem_cons_succ])
                refine wpAnyH_take (i := 2) rfl (by kernel_rfl) (by kernel_rfl) (by kernel_rfl) (fun _ _ _ h => h) (Or.inr ⟨by rfl, rfl⟩) (by assumption) ?_; (try simp only [Act.put, List.setIfInBounds_toArray, List.set_cons_zero, List.set_cons_succ, List.getElem_toArray, List.getElem_cons_zero, List.getElem_cons_succ])
                refine wpAnyH_take (i := 3) rfl (by kernel_rfl) (by kernel_rfl) (by kernel_rfl) (fun _ _ _ h => h) (Or.inr ⟨by rfl, rfl⟩) (by assumption) ?_; (try simp only [Act.put, List.setIfInBounds_toArray, List.set_cons_zero, List.set_cons_succ, List.getElem_toArray, List.getElem_cons_zero, List.getElem_cons_succ])
                refine wpAnyH_take (i := 4) rfl (by kernel_rfl) (by kernel_rfl) (by kernel_rfl) (fun _ _ _ h => h) (Or.inr ⟨by rfl, rfl⟩) (by assumption) ?_; (try simp only [Act.put, List.setIfInBounds_toArray, List.set_cons_zero, List.set_cons_succ, List.getElem_toArray, List.getElem_cons_zero, List.getElem_cons_succ])
                refine wpAnyH_take (i := 5) rfl (by kernel_rfl) (by kernel_rfl) (by kernel_rfl) (fun _ _ _ h => h) (Or.inr ⟨by rfl, rfl⟩) (by assumption) ?_; (try simp only [Act.put, List.setIfInBounds_toArray, List.set_cons_zero, List.set_cons_succ, List.getElem_toArray, List.getElem_cons_zero, List.getElem_cons_succ])
                refine wpAnyH_take (i := 6) rfl (by kernel_rfl) (by kernel_rfl) (by kernel_rfl) (fun _ _ _ h => h) (Or.inr ⟨by rfl, rfl⟩) (by assumption) ?_; (try simp only [Act.put, List.setIfInBounds_toArray, List.set_cons_zero, List.set_cons_succ, List.getElem_toArray, List.getElem_cons_zero, List.getElem_cons_succ])
                refine wpAnyH_take (i := 7) rfl (by kernel_rfl) (by kernel_rfl) (by kernel_rfl) (fun _ _ _ h => h) (Or.inr ⟨by rfl, rfl⟩) (by assumption) ?_; (try simp only [Act.put, List.setIfInBounds_toArray, List.set_cons_zero, List.set_cons_succ, List.getElem_toArray, List.getElem_cons_zero, List.getElem_cons_succ])
                refine wpAnyH_take (i := 8) rfl (by kernel_rfl) (by kernel_rfl) (by kernel_rfl) (fun _ _ _ h => h) (Or.inr ⟨by rfl, rfl⟩) (by assumption) ?_; (try simp only [Act.put, List.setIfInBounds_toArray, List.set_cons_zero, List.set_cons_succ, List.getElem_toArray, List.getElem_cons_zero, List.getElem_cons_succ])
                refine wpAnyH_take (i := 9) rfl (by kernel_rfl) (by kernel_rfl) (by kernel_rfl) (fun _ _ _ h => h) (Or.inr ⟨by rfl, rfl⟩) (by assumption) ?_; (try simp only [Act.put, List.setIfInBounds_toArray, List.set_cons_zero, List.set_cons_succ, List.getElem_toArray, List.getElem_cons_zero, List.getElem_cons_succ])
                refine wpAnyH_take (i := 10) rfl (by kernel_rfl) (by kernel_rfl) (by kernel_rfl) (fun _ _ _ h => h) (Or.inr ⟨by rfl, rfl⟩) (by assumption) ?_; (try simp only [Act.put, List.setIfInBounds_toArray, List.set_cons_zero, List.set_cons_succ, List.getElem_toArray, List.getElem_cons_zero, List.getElem_cons_succ])
                refine wpAnyH_take (i := 11) rfl (by kernel_rfl) (by kernel_rfl) (by kernel_rfl) (fun _ _ _ h => h) (Or.inr ⟨by rfl, rfl⟩) (by assumption) ?_; (try simp only [Act.put, List.setIfInBounds_toArray, List.set_cons_zero, List.set_cons_succ, List.getElem_toArray, List.getElem_cons_zero, List.getElem_cons_succ])
                refine wpAnyH_take (i := 12) rfl (by kernel_rfl) (by kernel_rfl) (by kernel_rfl) (fun _ _ _ h => h) (Or.inr ⟨by rfl, rfl⟩) (by assumption) ?_; (try simp only [Act.put, List.setIfInBounds_toArray, List.set_cons_zero, List.set_cons_succ, List.getElem_toArray, List.getElem_cons_zero, List.getElem_cons_succ])
                refine wpAnyH_take (i := 13) rfl (by kernel_rfl) (by kernel_rfl) (by kernel_rfl) (fun _ _ _ h => h) (Or.inr ⟨by rfl, rfl⟩) (by assumption) ?_; (try simp only [Act.put, List.setIfInBounds_toArray, List.set_cons_zero, List.set_cons_succ, List.getElem_toArray, List.getElem_cons_zero, List.getElem_cons_succ])
                refine wpAnyH_take (i := 14) rfl (by kernel_rfl) (by kernel_rfl) (by kernel_rfl) (fun _ _ _ h => h) (Or.inr ⟨by rfl, rfl⟩) (by assumption) ?_; (try simp only [Act.put, List.setIfInBounds_toArray, List.set_cons_zero, List.set_cons_succ, List.getElem_toArray, List.getElem_cons_zero, List.getElem_cons_succ])
                refine wpAnyH_take (i := 15) rfl (by kernel_rfl) (by kernel_rfl) (by kernel_rfl) (fun _ _ _ h => h) (Or.inr ⟨by rfl, rfl⟩) (by assumption) ?_; (try simp only [Act.put, List.setIfInBounds_toArray, List.set_cons_zero, List.set_cons_succ, List.getElem_toArray, List.getElem_cons_zero, List.getElem_cons_succ])
                refine wpAnyH_take (i := 16) rfl (by kernel_rfl) (by kernel_rfl) (by kernel_rfl) (fun _ _ _ h => h) (Or.inr ⟨by rfl, rfl⟩) (by assumption) ?_; (try simp only [Act.put, List.setIfInBounds_toArray, List.set_cons_zero, List.set_cons_succ, List.getElem_toArray, List.getElem_cons_zero, List.getElem_cons_succ])
                refine wpAnyH_take (i := 17) rfl (by kernel_rfl) (by kernel_rfl) (by kernel_rfl) (fun _ _ _ h => h) (Or.inr ⟨by rfl, rfl⟩) (by assumption) ?_; (try simp only [Act.put, List.setIfInBounds_toArray, List.set_cons_zero, List.set_cons_succ, List.getElem_toArray, List.getElem_cons_zero, List.getElem_cons_succ])
                refine wpAnyH_take (i := 18) rfl (by kernel_rfl) (by kernel_rfl) (by kernel_rfl) (fun _ _ _ h => h) (Or.inr ⟨by rfl, rfl⟩) (by assumption) ?_; (try simp only [Act.put, List.setIfInBounds_toArray, List.set_cons_zero, List.set_cons_succ, List.getElem_toArray, List.getElem_cons_zero, List.getElem_cons_succ])
                refine wpAnyH_take (i := 19) rfl (by kernel_rfl) (by kernel_rfl) (by kernel_rfl) (fun _ _ _ h => h) (Or.inr ⟨by rfl, rfl⟩) (by assumption) ?_; (try simp only [Act.put, List.setIfInBounds_toArray, List.set_cons_zero, List.set_cons_succ, List.getElem_toArray, List.getElem_cons_zero, List.getElem_cons_succ])
                refine wpAnyH_take (i := 20) rfl (by kernel_rfl) (by kernel_rfl) (by kernel_rfl) (fun _ _ _ h => h) (Or.inr ⟨by rfl, rfl⟩) (by assumption) ?_; (try simp only [Act.put, List.setIfInBounds_toArray, List.set_cons_zero, List.set_cons_succ, List.getElem_toArray, List.getElem_cons_zero, List.getElem_cons_succ])
                refine wpAnyH_take (i := 21) rfl (by kernel_rfl) (by kernel_rfl) (by kernel_rfl) (fun _ _ _ h => h) (Or.inl ⟨by rfl, by intro w hSw; (try dsimp only at hSw); go_simp; (try with_reducible rfl)⟩) (by assumption) ?_; (try simp only [Act.put, List.setIfInBounds_toArray, List.set_cons_zero, List.set_cons_succ, List.getElem_toArray, List.getElem_cons_zero, List.getElem_cons_succ])
                refine wpAnyH_take (i := 22) rfl (by kernel_rfl) (by kernel_rfl) (by kernel_rfl) (fun _ _ _ h => h) (Or.inl ⟨by rfl, by intro w hSw; (try dsimp only at hSw); go_simp; (try with_reducible rfl)⟩) (by assumption) ?_; (try simp only [Act.put, List.setIfInBounds_toArray, List.set_cons_zero, List.set_cons_succ, List.getElem_toArray, List.getElem_cons_zero, List.getElem_cons_succ])
                refine wpAnyH_done (by kernel_rfl) ?_ _
                clear hHeld
                clear c0 c1 c2 c3
                go_wp2
                go_roundw
                case rel => exact ⟨k + 1, by go_num, by omega, by rw [show (V.take (k + 1)).any (betwP x s1 s2) = true by rw [HNx.out]; rfl], Lib.hid (HGr.out.trans (Gr.refl wr).drew)⟩
                case measure => simp [intOf]; omega
              | false =>
                cases hq1 : lessS (sa V[k]) (sb V[k]) x.rw x.rl with
                | true =>
                  rw [hq1] at HL1 HPv
                  go_wp2
                  have C0 : ∀ w', Gr wr.drew w' → w'.cell? ⟨bk, of + k * 4, none⟩ = some (.int .i64 (sa V[k])) := cellRule (w := wr.drew) (c0)
                  have C1 : ∀ w', Gr wr.drew w' → w'.cell? ⟨bk, of + k * 4 + 1, none⟩ = some (.int .i64 (sb V[k])) := cellRule (w := wr.drew) (c1)
                  have B7 : ∀ w', Gr wr.drew w' → w'.cell? ⟨w.heap.size, 7, none⟩ = some (.int .i64 x.rw) := cellRule (w := wr.drew) (cell_of HAr.out rfl)
                  have B8 : ∀ w', Gr wr.drew w' → w'.cell? ⟨w.heap.size, 8, none⟩ = some (.int .i64 x.rl) := cellRule (w := wr.drew) (cell_of HAr.out rfl)
                  have S0 : ∀ w', Gr wr.drew w' → w'.cell? ⟨w.heap.size + 1, 0, none⟩ = some (.int .i64 s1) := cellRule (w := wr.drew) (cell_of HSr.out rfl)
                  have S1 : ∀ w', Gr wr.drew w' → w'.cell? ⟨w.heap.size + 1, 1, none⟩ = some (.int .i64 s2) := cellRule (w := wr.drew) (cell_of HSr.out rfl)
                  refine wp_region_held_drew (S := fun w' => Gr wr.drew w') (by kernel_rfl) (Gr.refl _) (fun hHeld => ?_)
                  try dsimp only at hHeld
                  refine wpAnyH_take (i := 0) rfl (by kernel_rfl) (by kernel_rfl) (by kernel_rfl) (fun _ _ _ h => h) (Or.inl ⟨by rfl, by intro w hSw; (try dsimp only at hSw); go_simp; (try with_reducible rfl)⟩) (by assumption) ?_; (try simp only [Act.put, List.setIfInBounds_toArray, List.set_cons_zero, List.set_cons_succ, List.getElem_toArray, List.getElem_cons_zero, List.getElem_cons_succ])
                  refine wpAnyH_take (i := 1) rfl (by kernel_rfl) (by kernel_rfl) (by kernel_rfl) (fun _ _ _ h => h) (Or.inl ⟨by rfl, by intro w hSw; (try dsimp only at hSw); go_simp; (try with_reducible rfl)⟩) (by assumption) ?_; (try simp only [Act.put, List.setIfInBounds_toArray, List.set_cons_zero, List.set_cons_succ, List.getElem_toArray, List.getElem_cons_zero, List.getElem_cons_succ])
                  refine wpAnyH_take (i := 2) rfl (by kernel_rfl) (by kernel_rfl) (by kernel_rfl) (fun _ _ _ h => h) (Or.inl ⟨by rfl, by intro w hSw; (try dsimp only at hSw); go_simp; (try with_reducible rfl)⟩) (by assumption) ?_; (try simp only [Act.put, List.setIfInBounds_toArray, List.set_cons_zero, List.set_cons_succ, List.getElem_toArray, List.getElem_cons_zero, List.getElem_cons_succ])
                  refine wpAnyH_take (i := 3) rfl (by kernel_rfl) (by kernel_rfl) (by kernel_rfl) (fun _ _ _ h => h) (Or.inl ⟨by rfl, by intro w hSw; (try dsimp only at hSw); go_simp; (try with_reducible rfl)⟩) (by assumption) ?_; (try simp only [Act.put, List.setIfInBounds_toArray, List.set_cons_zero, List.set_cons_succ, List.getElem_toArray, List.getElem_cons_zero, List.getElem_cons_succ])
                  refine wpAnyH_take (i := 4) rfl (by kernel_rfl) (by kernel_rfl) (by kernel_rfl) (fun _ _ _ h => h) (Or.inl ⟨by rfl, by intro w hSw; (try dsimp only at hSw); go_simp; (try with_reducible rfl)⟩) (by assumption) ?_; (try simp only [Act.put, List.setIfInBounds_toArray, List.set_cons_zero, List.set_cons_succ, List.getElem_toArray, List.getElem_cons_zero, List.getElem_cons_succ])
                  refine wpAnyH_take (i := 5) rfl (by kernel_rfl) (by kernel_rfl) (by kernel_rfl) (fun _ _ _ h => h) (Or.inl ⟨by rfl, by intro w hSw; (try dsimp only at hSw); go_simp; (try with_reducible rfl)⟩) (by assumption) ?_; (try simp only [Act.put, List.setIfInBounds_toArray, List.set_cons_zero, List.set_cons_succ, List.getElem_toArray, List.getElem_cons_zero, List.getElem_cons_succ])
                  refine wpAnyH_take (i := 6) rfl (by kernel_rfl) (by kernel_rfl) (by kernel_rfl) (fun _ _ _ h => h) (Or.inl ⟨by rfl, by intro w hSw; (try dsimp only at hSw); go_simp; (try with_reducible rfl)⟩) (by assumption) ?_; (try simp only [Act.put, List.setIfInBounds_toArray, List.set_cons_zero, List.set_cons_succ, List.getElem_toArray, List.getElem_cons_zero, List.getElem_cons_succ])
                  refine wpAnyH_take (i := 7) rfl (by kernel_rfl) (by kernel_rfl) (by kernel_rfl) (fun _ _ _ h => h) (Or.inl ⟨by rfl, by intro w hSw; (try dsimp only at hSw); go_simp; (try with_reducible rfl)⟩) (by assumption) ?_; (try simp only [Act.put, List.setIfInBounds_toArray, List.set_cons_zero, List.set_cons_succ, List.getElem_toArray, List.getElem_cons_zero, List.getElem_cons_succ])
                  refine wpAnyH_take (i := 8) rfl (by kernel_rfl) (by kernel_rfl) (by kernel_rfl) (fun _ _ _ h => h) (Or.inl ⟨by rfl, by intro w hSw; (try dsimp only at hSw); go_simp; (try with_reducible rfl)⟩) (by assumption) ?_; (try simp only [Act.put, List.setIfInBounds_toArray, List.set_cons_zero, List.set_cons_succ, List.getElem_toArray, List.getElem_cons_zero, List.getElem_cons_succ])
                  refine wpAnyH_take (i := 9) rfl (by kernel_rfl) (by kernel_rfl) (by kernel_rfl) (fun _ _ _ h => h) (Or.inl ⟨by rfl, by intro w hSw; (try dsimp only at hSw); go_simp; (try with_reducible rfl)⟩) (by assumption) ?_; (try simp only [Act.put, List.setIfInBounds_toArray, List.set_cons_zero, List.set_cons_succ, List.getElem_toArray, List.getElem_cons_zero, List.getElem_cons_succ])
                  refine wpAnyH_ready (rs := [10]) (by kernel_rfl) (by simp) ?_
                  refine AllReadyH.cons rfl (fun K hK => ?_) AllReadyH.nil
                  go_simp
                  refine (HL1.out _).mono ?_
                  rintro e u0 ⟨rfl, hg⟩
                  refine hK.out _ _ hg (fun _ => wpAnyH_turn hg (fun hHeld => ?_))
                  clear hK K
                  try dsimp only at hHeld
                  have C0' := Rule.turn C0 hg
                  have C1' := Rule.turn C1 hg
                  have S0' := Rule.turn S0 hg
                  have S1' := Rule.turn S1 hg
                  clear C0 C1 B7 B8 S0 S1
                  have HU := Lib.hid hg
                  clear hg
                  refine wpAnyH_take (i := 11) rfl (by kernel_rfl) (by kernel_rfl) (by kernel_rfl) (fun _ _ _ h => h) (Or.inl ⟨by rfl, by intro w hSw; (try dsimp only at hSw); go_simp; (try with_reducible rfl)⟩) (by assumption) ?_; (try simp only [Act.put, List.setIfInBounds_toArray, List.set_cons_zero, List.set_cons_succ, List.getElem_toArray, List.getElem_cons_zero, List.getElem_cons_succ])
                  refine wpAnyH_take (i := 12) rfl (by kernel_rfl) (by kernel_rfl) (by kernel_rfl) (fun _ _ _ h => h) (Or.inl ⟨by rfl, by intro w hSw; (try dsimp only at hSw); go_simp; (try with_reducible rfl)⟩) (by assumption) ?_; (try simp only [Act.put, List.setIfInBounds_toArray, List.set_cons_zero, List.set_cons_succ, List.getElem_toArray, List.getElem_cons_zero, List.getElem_cons_succ])
                  refine wpAnyH_take (i := 13) rfl (by kernel_rfl) (by kernel_rfl) (by kernel_rfl) (fun _ _ _ h => h) (Or.inr ⟨by rfl, rfl⟩) (by assumption) ?_; (try simp only [Act.put, List.setIfInBounds_toArray, List.set_cons_zero, List.set_cons_succ, List.getElem_toArray, List.getElem_cons_zero, List.getElem_cons_succ])
                  refine wpAnyH_take (i := 14) rfl (by kernel_rfl) (by kernel_rfl) (by kernel_rfl) (fun _ _ _ h => h) (Or.inr ⟨by rfl, rfl⟩) (by assumption) ?_; (try simp only [Act.put, List.setIfInBounds_toArray, List.set_cons_zero, List.set_cons_succ, List.getElem_toArray, List.getElem_cons_zero, List.getElem_cons_succ])
                  refine wpAnyH_take (i := 15) rfl (by kernel_rfl) (by kernel_rfl) (by kernel_rfl) (fun _ _ _ h => h) (Or.inr ⟨by rfl, rfl⟩) (by assumption) ?_; (try simp only [Act.put, List.setIfInBounds_toArray, List.set_cons_zero, List.set_cons_succ, List.getElem_toArray, List.getElem_cons_zero, List.getElem_cons_succ])
                  refine wpAnyH_take (i := 16) rfl (by kernel_rfl) (by kernel_rfl) (by kernel_rfl) (fun _ _ _ h => h) (Or.inr ⟨by rfl, rfl⟩) (by assumption) ?_; (try simp only [Act.put, List.setIfInBounds_toArray, List.set_cons_zero, List.set_cons_succ, List.getElem_toArray, List.getElem_cons_zero, List.getElem_cons_succ])
                  refine wpAnyH_take (i := 17) rfl (by kernel_rfl) (by kernel_rfl) (by kernel_rfl) (fun _ _ _ h => h) (Or.inr ⟨by rfl, rfl⟩) (by assumption) ?_; (try simp only [Act.put, List.setIfInBounds_toArray, List.set_cons_zero, List.set_cons_succ, List.getElem_toArray, List.getElem_cons_zero, List.getElem_cons_succ])
                  refine wpAnyH_take (i := 18) rfl (by kernel_rfl) (by kernel_rfl) (by kernel_rfl) (fun _ _ _ h => h) (Or.inr ⟨by rfl, rfl⟩) (by assumption) ?_; (try simp only [Act.put, List.setIfInBounds_toArray, List.set_cons_zero, List.set_cons_succ, List.getElem_toArray, List.getElem_cons_zero, List.getElem_cons_succ])
                  refine wpAnyH_take (i := 19) rfl (by kernel_rfl) (by kernel_rfl) (by kernel_rfl) (fun _ _ _ h => h) (Or.inr ⟨by rfl, rfl⟩) (by assumption) ?_; (try simp only [Act.put, List.setIfInBounds_toArray, List.set_cons_zero, List.set_cons_succ, List.getElem_toArray, List.getElem_cons_zero, List.getElem_cons_succ])
                  refine wpAnyH_take (i := 20) rfl (by kernel_rfl) (by kernel_rfl) (by kernel_rfl) (fun _ _ _ h => h) (Or.inl ⟨by rfl, by intro w hSw; (try dsimp only at hSw); go_simp; (try with_reducible rfl)⟩) (by assumption) ?_; (try simp only [Act.put, List.setIfInBounds_toArray, List.set_cons_zero, List.set_cons_succ, List.getElem_toArray, List.getElem_cons_zero, List.getElem_cons_succ])
                  refine wpAnyH_take (i := 21) rfl (by kernel_rfl) (by kernel_rfl) (by kernel_rfl) (fun _ _ _ h => h) (Or.inl ⟨by rfl, by intro w hSw; (try dsimp only at hSw); go_simp; (try with_reducible rfl)⟩) (by assumption) ?_; (try simp only [Act.put, List.setIfInBounds_toArray, List.set_cons_zero, List.set_cons_succ, List.getElem_toArray, List.getElem_cons_zero, List.getElem_cons_succ])
                  refine wpAnyH_take (i := 22) rfl (by kernel_rfl) (by kernel_rfl) (by kernel_rfl) (fun _ _ _ h => h) (Or.inl ⟨by rfl, by intro w hSw; (try dsimp only at hSw); go_simp; (try with_reducible rfl)⟩) (by assumption) ?_; (try simp only [Act.put, List.setIfInBounds_toArray, List.set_cons_zero, List.set_cons_succ, List.getElem_toArray, List.getElem_cons_zero, List.getElem_cons_succ])
                  refine wpAnyH_done (by kernel_rfl) ?_ _
                  clear hHeld C0' C1' S0' S1'
                  clear c0 c1 c2 c3
                  go_wp2
                  go_roundw
                  case rel => exact ⟨k + 1, by go_num, by omega, by rw [show (V.take (k + 1)).any (betwP x s1 s2) = false by rw [HNx.out, HPv.out]; rfl], Lib.hid (HGr.out.trans ((Gr.refl wr).drew.trans HU.out))⟩
                  case measure => simp [intOf]; omega
                | false =>
                  cases hq2 : lessS (sa V[k]) (sb V[k]) s1 s2 with
                  | true =>
                    rw [hq1] at HL1 HPv
                    rw [hq2] at HL2 HPv
                    go_wp2
                    have C0 : ∀ w', Gr wr.drew w' → w'.cell? ⟨bk, of + k * 4, none⟩ = some (.int .i64 (sa V[k])) := cellRule (w := wr.drew) (c0)
                    have C1 : ∀ w', Gr wr.drew w' → w'.cell? ⟨bk, of + k * 4 + 1, none⟩ = some (.int .i64 (sb V[k])) := cellRule (w := wr.drew) (c1)
                    have B7 : ∀ w', Gr wr.drew w' → w'.cell? ⟨w.heap.size, 7, none⟩ = some (.int .i64 x.rw) := cellRule (w := wr.drew) (cell_of HAr.out rfl)
                    have B8 : ∀ w', Gr wr.drew w' → w'.cell? ⟨w.heap.size, 8, none⟩ = some (.int .i64 x.rl) := cellRule (w := wr.drew) (cell_of HAr.out rfl)
                    have S0 : ∀ w', Gr wr.drew w' → w'.cell? ⟨w.heap.size + 1, 0, none⟩ = some (.int .i64 s1) := cellRule (w := wr.drew) (cell_of HSr.out rfl)
                    have S1 : ∀ w', Gr wr.drew w' → w'.cell? ⟨w.heap.size + 1, 1, none⟩ = some (.int .i64 s2) := cellRule (w := wr.drew) (cell_of HSr.out rfl)
                    refine wp_region_held_drew (S := fun w' => Gr wr.drew w') (by kernel_rfl) (Gr.refl _) (fun hHeld => ?_)
                    try dsimp only at hHeld
                    refine wpAnyH_take (i := 0) rfl (by kernel_rfl) (by kernel_rfl) (by kernel_rfl) (fun _ _ _ h => h) (Or.inl ⟨by rfl, by intro w hSw; (try dsimp only at hSw); go_simp; (try with_reducible rfl)⟩) (by assumption) ?_; (try simp only [Act.put, List.setIfInBounds_toArray, List.set_cons_zero, List.set_cons_succ, List.getElem_toArray, List.getElem_cons_zero, List.getElem_cons_succ])
                    refine wpAnyH_take (i := 1) rfl (by kernel_rfl) (by kernel_rfl) (by kernel_rfl) (fun _ _ _ h => h) (Or.inl ⟨by rfl, by intro w hSw; (try dsimp only at hSw); go_simp; (try with_reducible rfl)⟩) (by assumption) ?_; (try simp only [Act.put, List.setIfInBounds_toArray, List.set_cons_zero, List.set_cons_succ, List.getElem_toArray, List.getElem_cons_zero, List.getElem_cons_succ])
                    refine wpAnyH_take (i := 2) rfl (by kernel_rfl) (by kernel_rfl) (by kernel_rfl) (fun _ _ _ h => h) (Or.inl ⟨by rfl, by intro w hSw; (try dsimp only at hSw); go_simp; (try with_reducible rfl)⟩) (by assumption) ?_; (try simp only [Act.put, List.setIfInBounds_toArray, List.set_cons_zero, List.set_cons_succ, List.getElem_toArray, List.getElem_cons_zero, List.getElem_cons_succ])
                    refine wpAnyH_take (i := 3) rfl (by kernel_rfl) (by kernel_rfl) (by kernel_rfl) (fun _ _ _ h => h) (Or.inl ⟨by rfl, by intro w hSw; (try dsimp only at hSw); go_simp; (try with_reducible rfl)⟩) (by assumption) ?_; (try simp only [Act.put, List.setIfInBounds_toArray, List.set_cons_zero, List.set_cons_succ, List.getElem_toArray, List.getElem_cons_zero, List.getElem_cons_succ])
                    refine wpAnyH_take (i := 4) rfl (by kernel_rfl) (by kernel_rfl) (by kernel_rfl) (fun _ _ _ h => h) (Or.inl ⟨by rfl, by intro w hSw; (try dsimp only at hSw); go_simp; (try with_reducible rfl)⟩) (by assumption) ?_; (try simp only [Act.put, List.setIfInBounds_toArray, List.set_cons_zero, List.set_cons_succ, List.getElem_toArray, List.getElem_cons_zero, List.getElem_cons_succ])
                    refine wpAnyH_take (i := 5) rfl (by kernel_rfl) (by kernel_rfl) (by kernel_rfl) (fun _ _ _ h => h) (Or.inl ⟨by rfl, by intro w hSw; (try dsimp only at hSw); go_simp; (try with_reducible rfl)⟩) (by assumption) ?_; (try simp only [Act.put, List.setIfInBounds_toArray, List.set_cons_zero, List.set_cons_succ, List.getElem_toArray, List.getElem_cons_zero, List.getElem_cons_succ])
                    refine wpAnyH_take (i := 6) rfl (by kernel_rfl) (by kernel_rfl) (by kernel_rfl) (fun _ _ _ h => h) (Or.inl ⟨by rfl, by intro w hSw; (try dsimp only at hSw); go_simp; (try with_reducible rfl)⟩) (by assumption) ?_; (try simp only [Act.put, List.setIfInBounds_toArray, List.set_cons_zero, List.set_cons_succ, List.getElem_toArray, List.getElem_cons_zero, List.getElem_cons_succ])
                    refine wpAnyH_take (i := 7) rfl (by kernel_rfl) (by kernel_rfl) (by kernel_rfl) (fun _ _ _ h => h) (Or.inl ⟨by rfl, by intro w hSw; (try dsimp only at hSw); go_simp; (try with_reducible rfl)⟩) (by assumption) ?_; (try simp only [Act.put, List.setIfInBounds_toArray, List.set_cons_zero, List.set_cons_succ, List.getElem_toArray, List.getElem_cons_zero, List.getElem_cons_succ])
                    refine wpAnyH_take (i := 8) rfl (by kernel_rfl) (by kernel_rfl) (by kernel_rfl) (fun _ _ _ h => h) (Or.inl ⟨by rfl, by intro w hSw; (try dsimp only at hSw); go_simp; (try with_reducible rfl)⟩) (by assumption) ?_; (try simp only [Act.put, List.setIfInBounds_toArray, List.set_cons_zero, List.set_cons_succ, List.getElem_toArray, List.getElem_cons_zero, List.getElem_cons_succ])
                    refine wpAnyH_take (i := 9) rfl (by kernel_rfl) (by kernel_rfl) (by kernel_rfl) (fun _ _ _ h => h) (Or.inl ⟨by rfl, by intro w hSw; (try dsimp only at hSw); go_simp; (try with_reducible rfl)⟩) (by assumption) ?_; (try simp only [Act.put, List.setIfInBounds_toArray, List.set_cons_zero, List.set_cons_succ, List.getElem_toArray, List.getElem_cons_zero, List.getElem_cons_succ])
                    refine wpAnyH_ready (rs := [10]) (by kernel_rfl) (by simp) ?_
                    refine AllReadyH.cons rfl (fun K hK => ?_) AllReadyH.nil
                    go_simp
                    refine (HL1.out _).mono ?_
                    rintro e u0 ⟨rfl, hg⟩
                    refine hK.out _ _ hg (fun _ => wpAnyH_turn hg (fun hHeld => ?_))
                    clear hK K
                    try dsimp only at hHeld
                    have C0' := Rule.turn C0 hg
                    have C1' := Rule.turn C1 hg
                    have S0' := Rule.turn S0 hg
                    have S1' := Rule.turn S1 hg
                    clear C0 C1 B7 B8 S0 S1
                    have HU := Lib.hid hg
                    clear hg
                    refine wpAnyH_take (i := 11) rfl (by kernel_rfl) (by kernel_rfl) (by kernel_rfl) (fun _ _ _ h => h) (Or.inl ⟨by rfl, by intro w hSw; (try dsimp only at hSw); go_simp; (try with_reducible rfl)⟩) (by assumption) ?_; (try simp only [Act.put, List.setIfInBounds_toArray, List.set_cons_zero, List.set_cons_succ, List.getElem_toArray, List.getElem_cons_zero, List.getElem_cons_succ])
                    refine wpAnyH_take (i := 12) rfl (by kernel_rfl) (by kernel_rfl) (by kernel_rfl) (fun _ _ _ h => h) (Or.inl ⟨by rfl, by intro w hSw; (try dsimp only at hSw); go_simp; (try with_reducible rfl)⟩) (by assumption) ?_; (try simp only [Act.put, List.setIfInBounds_toArray, List.set_cons_zero, List.set_cons_succ, List.getElem_toArray, List.getElem_cons_zero, List.getElem_cons_succ])
                    refine wpAnyH_take (i := 13) rfl (by kernel_rfl) (by kernel_rfl) (by kernel_rfl) (fun _ _ _ h => h) (Or.inl ⟨by rfl, by intro w hSw; (try dsimp only at hSw); go_simp; (try with_reducible rfl)⟩) (by assumption) ?_; (try simp only [Act.put, List.setIfInBounds_toArray, List.set_cons_zero, List.set_cons_succ, List.getElem_toArray, List.getElem_cons_zero, List.getElem_cons_succ])
                    refine wpAnyH_take (i := 14) rfl (by kernel_rfl) (by kernel_rfl) (by kernel_rfl) (fun _ _ _ h => h) (Or.inl ⟨by rfl, by intro w hSw; (try dsimp only at hSw); go_simp; (try with_reducible rfl)⟩) (by assumption) ?_; (try simp only [Act.put, List.setIfInBounds_toArray, List.set_cons_zero, List.set_cons_succ, List.getElem_toArray, List.getElem_cons_zero, List.getElem_cons_succ])
                    refine wpAnyH_take (i := 15) rfl (by kernel_rfl) (by kernel_rfl) (by kernel_rfl) (fun _ _ _ h => h) (Or.inl ⟨by rfl, by intro w hSw; (try dsimp only at hSw); go_simp; (try with_reducible rfl)⟩) (by assumption) ?_; (try simp only [Act.put, List.setIfInBounds_toArray, List.set_cons_zero, List.set_cons_succ, List.getElem_toArray, List.getElem_cons_zero, List.getElem_cons_succ])
                    refine wpAnyH_take (i := 16) rfl (by kernel_rfl) (by kernel_rfl) (by kernel_rfl) (fun _ _ _ h => h) (Or.inl ⟨by rfl, by intro w hSw; (try dsimp only at hSw); go_simp; (try with_reducible rfl)⟩) (by assumption) ?_; (try simp only [Act.put, List.setIfInBounds_toArray, List.set_cons_zero, List.set_cons_succ, List.getElem_toArray, List.getElem_cons_zero, List.getElem_cons_succ])
                    refine wpAnyH_take (i := 17) rfl (by kernel_rfl) (by kernel_rfl) (by kernel_rfl) (fun _ _ _ h => h) (Or.inl ⟨by rfl, by intro w hSw; (try dsimp only at hSw); go_simp; (try with_reducible rfl)⟩) (by assumption) ?_; (try simp only [Act.put, List.setIfInBounds_toArray, List.set_cons_zero, List.set_cons_succ, List.getElem_toArray, List.getElem_cons_zero, List.getElem_cons_succ])
                    refine wpAnyH_take (i := 18) rfl (by kernel_rfl) (by kernel_rfl) (by kernel_rfl) (fun _ _ _ h => h) (Or.inl ⟨by rfl, by intro w hSw; (try dsimp only at hSw); go_simp; (try with_reducible rfl)⟩) (by assumption) ?_; (try simp only [Act.put, List.setIfInBounds_toArray, List.set_cons_zero, List.set_cons_succ, List.getElem_toArray, List.getElem_cons_zero, List.getElem_cons_succ])
                    refine wpAnyH_ready (rs := [19]) (by kernel_rfl) (by simp) ?_
                    refine AllReadyH.cons rfl (fun K hK => ?_) AllReadyH.nil
                    go_simp
                    refine (HL2.out _).mono ?_
                    rintro e u1 ⟨rfl, hg⟩
                    refine hK.out _ _ hg (fun _ => wpAnyH_turn hg (fun hHeld => ?_))
                    clear hK K
                    try dsimp only at hHeld
                    have C0'' := Rule.turn C0' hg
                    have C1'' := Rule.turn C1' hg
                    have S0'' := Rule.turn S0' hg
                    have S1'' := Rule.turn S1' hg
                    clear C0' C1' S0' S1'
                    replace HU := Lib.hid (HU.out.trans hg)
                    clear hg
                    refine wpAnyH_take (i := 20) rfl (by kernel_rfl) (by kernel_rfl) (by kernel_rfl) (fun _ _ _ h => h) (Or.inl ⟨by rfl, by intro w hSw; (try dsimp only at hSw); go_simp; (try with_reducible rfl)⟩) (by assumption) ?_; (try simp only [Act.put, List.setIfInBounds_toArray, List.set_cons_zero, List.set_cons_succ, List.getElem_toArray, List.getElem_cons_zero, List.getElem_cons_succ])
                    refine wpAnyH_take (i := 21) rfl (by kernel_rfl) (by kernel_rfl) (by kernel_rfl) (fun _ _ _ h => h) (Or.inl ⟨by rfl, by intro w hSw; (try dsimp only at hSw); go_simp; (try with_reducible rfl)⟩) (by assumption) ?_; (try simp only [Act.put, List.setIfInBounds_toArray, List.set_cons_zero, List.set_cons_succ, List.getElem_toArray, List.getElem_cons_zero, List.getElem_cons_succ])
                    refine wpAnyH_take (i := 22) rfl (by kernel_rfl) (by kernel_rfl) (by kernel_rfl) (fun _ _ _ h => h) (Or.inl ⟨by rfl, by intro w hSw; (try dsimp only at hSw); go_simp; (try with_reducible rfl)⟩) (by assumption) ?_; (try simp only [Act.put, List.setIfInBounds_toArray, List.set_cons_zero, List.set_cons_succ, List.getElem_toArray, List.getElem_cons_zero, List.getElem_cons_succ])
                    refine wpAnyH_done (by kernel_rfl) ?_ _
                    clear hHeld C0'' C1'' S0'' S1''
                    clear c0 c1 c2 c3
                    go_wp2
                    go_roundw
                    case rel => exact ⟨k + 1, by go_num, by omega, by rw [show (V.take (k + 1)).any (betwP x s1 s2) = true by rw [HNx.out, HPv.out]; rfl], Lib.hid (HGr.out.trans ((Gr.refl wr).drew.trans HU.out))⟩
                    case measure => simp [intOf]; omega
                  | false =>
                    rw [hq1] at HL1 HPv
                    rw [hq2] at HL2 HPv
                    go_wp2
                    have C0 : ∀ w', Gr wr.drew w' → w'.cell? ⟨bk, of + k * 4, none⟩ = some (.int .i64 (sa V[k])) := cellRule (w := wr.drew) (c0)
                    have C1 : ∀ w', Gr wr.drew w' → w'.cell? ⟨bk, of + k * 4 + 1, none⟩ = some (.int .i64 (sb V[k])) := cellRule (w := wr.drew) (c1)
                    have B7 : ∀ w', Gr wr.drew w' → w'.cell? ⟨w.heap.size, 7, none⟩ = some (.int .i64 x.rw) := cellRule (w := wr.drew) (cell_of HAr.out rfl)
                    have B8 : ∀ w', Gr wr.drew w' → w'.cell? ⟨w.heap.size, 8, none⟩ = some (.int .i64 x.rl) := cellRule (w := wr.drew) (cell_of HAr.out rfl)
                    have S0 : ∀ w', Gr wr.drew w' → w'.cell? ⟨w.heap.size + 1, 0, none⟩ = some (.int .i64 s1) := cellRule (w := wr.drew) (cell_of HSr.out rfl)
                    have S1 : ∀ w', Gr wr.drew w' → w'.cell? ⟨w.heap.size + 1, 1, none⟩ = some (.int .i64 s2) := cellRule (w := wr.drew) (cell_of HSr.out rfl)
                    refine wp_region_held_drew (S := fun w' => Gr wr.drew w') (by kernel_rfl) (Gr.refl _) (fun hHeld => ?_)
                    try dsimp only at hHeld
                    refine wpAnyH_take (i := 0) rfl (by kernel_rfl) (by kernel_rfl) (by kernel_rfl) (fun _ _ _ h => h) (Or.inl ⟨by rfl, by intro w hSw; (try dsimp only at hSw); go_simp; (try with_reducible rfl)⟩) (by assumption) ?_; (try simp only [Act.put, List.setIfInBounds_toArray, List.set_cons_zero, List.set_cons_succ, List.getElem_toArray, List.getElem_cons_zero, List.getElem_cons_succ])
                    refine wpAnyH_take (i := 1) rfl (by kernel_rfl) (by kernel_rfl) (by kernel_rfl) (fun _ _ _ h => h) (Or.inl ⟨by rfl, by intro w hSw; (try dsimp only at hSw); go_simp; (try with_reducible rfl)⟩) (by assumption) ?_; (try simp only [Act.put, List.setIfInBounds_toArray, List.set_cons_zero, List.set_cons_succ, List.getElem_toArray, List.getElem_cons_zero, List.getElem_cons_succ])
                    refine wpAnyH_take (i := 2) rfl (by kernel_rfl) (by kernel_rfl) (by kernel_rfl) (fun _ _ _ h => h) (Or.inl ⟨by rfl, by intro w hSw; (try dsimp only at hSw); go_simp; (try with_reducible rfl)⟩) (by assumption) ?_; (try simp only [Act.put, List.setIfInBounds_toArray, List.set_cons_zero, List.set_cons_succ, List.getElem_toArray, List.getElem_cons_zero, List.getElem_cons_succ])
                    refine wpAnyH_take (i := 3) rfl (by kernel_rfl) (by kernel_rfl) (by kernel_rfl) (fun _ _ _ h => h) (Or.inl ⟨by rfl, by intro w hSw; (try dsimp only at hSw); go_simp; (try with_reducible rfl)⟩) (by assumption) ?_; (try simp only [Act.put, List.setIfInBounds_toArray, List.set_cons_zero, List.set_cons_succ, List.getElem_toArray, List.getElem_cons_zero, List.getElem_cons_succ])
                    refine wpAnyH_take (i := 4) rfl (by kernel_rfl) (by kernel_rfl) (by kernel_rfl) (fun _ _ _ h => h) (Or.inl ⟨by rfl, by intro w hSw; (try dsimp only at hSw); go_simp; (try with_reducible rfl)⟩) (by assumption) ?_; (try simp only [Act.put, List.setIfInBounds_toArray, List.set_cons_zero, List.set_cons_succ, List.getElem_toArray, List.getElem_cons_zero, List.getElem_cons_succ])
                    refine wpAnyH_take (i := 5) rfl (by kernel_rfl) (by kernel_rfl) (by kernel_rfl) (fun _ _ _ h => h) (Or.inl ⟨by rfl, by intro w hSw; (try dsimp only at hSw); go_simp; (try with_reducible rfl)⟩) (by assumption) ?_; (try simp only [Act.put, List.setIfInBounds_toArray, List.set_cons_zero, List.set_cons_succ, List.getElem_toArray, List.getElem_cons_zero, List.getElem_cons_succ])
                    refine wpAnyH_take (i := 6) rfl (by kernel_rfl) (by kernel_rfl) (by kernel_rfl) (fun _ _ _ h => h) (Or.inl ⟨by rfl, by intro w hSw; (try dsimp only at hSw); go_simp; (try with_reducible rfl)⟩) (by assumption) ?_; (try simp only [Act.put, List.setIfInBounds_toArray, List.set_cons_zero, List.set_cons_succ, List.getElem_toArray, List.getElem_cons_zero, List.getElem_cons_succ])
                    refine wpAnyH_take (i := 7) rfl (by kernel_rfl) (by kernel_rfl) (by kernel_rfl) (fun _ _ _ h => h) (Or.inl ⟨by rfl, by intro w hSw; (try dsimp only at hSw); go_simp; (try with_reducible rfl)⟩) (by assumption) ?_; (try simp only [Act.put, List.setIfInBounds_toArray, List.set_cons_zero, List.set_cons_succ, List.getElem_toArray, List.getElem_cons_zero, List.getElem_cons_succ])
                    refine wpAnyH_take (i := 8) rfl (by kernel_rfl) (by kernel_rfl) (by kernel_rfl) (fun _ _ _ h => h) (Or.inl ⟨by rfl, by intro w hSw; (try dsimp only at hSw); go_simp; (try with_reducible rfl)⟩) (by assumption) ?_; (try simp only [Act.put, List.setIfInBounds_toArray, List.set_cons_zero, List.set_cons_succ, List.getElem_toArray, List.getElem_cons_zero, List.getElem_cons_succ])
                    refine wpAnyH_take (i := 9) rfl (by kernel_rfl) (by kernel_rfl) (by kernel_rfl) (fun _ _ _ h => h) (Or.inl ⟨by rfl, by intro w hSw; (try dsimp only at hSw); go_simp; (try with_reducible rfl)⟩) (by assumption) ?_; (try simp only [Act.put, List.setIfInBounds_toArray, List.set_cons_zero, List.set_cons_succ, List.getElem_toArray, List.getElem_cons_zero, List.getElem_cons_succ])
                    refine wpAnyH_ready (rs := [10]) (by kernel_rfl) (by simp) ?_
                    refine AllReadyH.cons rfl (fun K hK => ?_) AllReadyH.nil
                    go_simp
                    refine (HL1.out _).mono ?_
                    rintro e u0 ⟨rfl, hg⟩
                    refine hK.out _ _ hg (fun _ => wpAnyH_turn hg (fun hHeld => ?_))
                    clear hK K
                    try dsimp only at hHeld
                    have C0' := Rule.turn C0 hg
                    have C1' := Rule.turn C1 hg
                    have S0' := Rule.turn S0 hg
                    have S1' := Rule.turn S1 hg
                    clear C0 C1 B7 B8 S0 S1
                    have HU := Lib.hid hg
                    clear hg
                    refine wpAnyH_take (i := 11) rfl (by kernel_rfl) (by kernel_rfl) (by kernel_rfl) (fun _ _ _ h => h) (Or.inl ⟨by rfl, by intro w hSw; (try dsimp only at hSw); go_simp; (try with_reducible rfl)⟩) (by assumption) ?_; (try simp only [Act.put, List.setIfInBounds_toArray, List.set_cons_zero, List.set_cons_succ, List.getElem_toArray, List.getElem_cons_zero, List.getElem_cons_succ])
                    refine wpAnyH_take (i := 12) rfl (by kernel_rfl) (by kernel_rfl) (by kernel_rfl) (fun _ _ _ h => h) (Or.inl ⟨by rfl, by intro w hSw; (try dsimp only at hSw); go_simp; (try with_reducible rfl)⟩) (by assumption) ?_; (try simp only [Act.put, List.setIfInBounds_toArray, List.set_cons_zero, List.set_cons_succ, List.getElem_toArray, List.getElem_cons_zero, List.getElem_cons_succ])
                    refine wpAnyH_take (i := 13) rfl (by kernel_rfl) (by kernel_rfl) (by kernel_rfl) (fun _ _ _ h => h) (Or.inl ⟨by rfl, by intro w hSw; (try dsimp only at hSw); go_simp; (try with_reducible rfl)⟩) (by assumption) ?_; (try simp only [Act.put, List.setIfInBounds_toArray, List.set_cons_zero, List.set_cons_succ, List.getElem_toArray, List.getElem_cons_zero, List.getElem_cons_succ])
                    refine wpAnyH_take (i := 14) rfl (by kernel_rfl) (by kernel_rfl) (by kernel_rfl) (fun _ _ _ h => h) (Or.inl ⟨by rfl, by intro w hSw; (try dsimp only at hSw); go_simp; (try with_reducible rfl)⟩) (by assumption) ?_; (try simp only [Act.put, List.setIfInBounds_toArray, List.set_cons_zero, List.set_cons_succ, List.getElem_toArray, List.getElem_cons_zero, List.getElem_cons_succ])
                    refine wpAnyH_take (i := 15) rfl (by kernel_rfl) (by kernel_rfl) (by kernel_rfl) (fun _ _ _ h => h) (Or.inl ⟨by rfl, by intro w hSw; (try dsimp only at hSw); go_simp; (try with_reducible rfl)⟩) (by assumption) ?_; (try simp only [Act.put, List.setIfInBounds_toArray, List.set_cons_zero, List.set_cons_succ, List.getElem_toArray, List.getElem_cons_zero, List.getElem_cons_succ])
                    refine wpAnyH_take (i := 16) rfl (by kernel_rfl) (by kernel_rfl) (by kernel_rfl) (fun _ _ _ h => h) (Or.inl ⟨by rfl, by intro w hSw; (try dsimp only at hSw); go_simp; (try with_reducible rfl)⟩) (by assumption) ?_; (try simp only [Act.put, List.setIfInBounds_toArray, List.set_cons_zero, List.set_cons_succ, List.getElem_toArray, List.getElem_cons_zero, List.getElem_cons_succ])
                    refine wpAnyH_take (i := 17) rfl (by kernel_rfl) (by kernel_rfl) (by kernel_rfl) (fun _ _ _ h => h) (Or.inl ⟨by rfl, by intro w hSw; (try dsimp only at hSw); go_simp; (try with_reducible rfl)⟩) (by assumption) ?_; (try simp only [Act.put, List.setIfInBounds_toArray, List.set_cons_zero, List.set_cons_succ, List.getElem_toArray, List.getElem_cons_zero, List.getElem_cons_succ])
                    refine wpAnyH_take (i := 18) rfl (by kernel_rfl) (by kernel_rfl) (by kernel_rfl) (fun _ _ _ h => h) (Or.inl ⟨by rfl, by intro w hSw; (try dsimp only at hSw); go_simp; (try with_reducible rfl)⟩) (by assumption) ?_; (try simp only [Act.put, List.setIfInBounds_toArray, List.set_cons_zero, List.set_cons_succ, List.getElem_toArray, List.getElem_cons_zero, List.getElem_cons_succ])
                    refine wpAnyH_ready (rs := [19]) (by kernel_rfl) (by simp) ?_
                    refine AllReadyH.cons rfl (fun K hK => ?_) AllReadyH.nil
                    go_simp
                    refine (HL2.out _).mono ?_
                    rintro e u1 ⟨rfl, hg⟩
                    refine hK.out _ _ hg (fun _ => wpAnyH_turn hg (fun hHeld => ?_))
                    clear hK K
                    try dsimp only at hHeld
                    have C0'' := Rule.turn C0' hg
                    have C1'' := Rule.turn C1' hg
                    have S0'' := Rule.turn S0' hg
                    have S1'' := Rule.turn S1' hg
                    clear C0' C1' S0' S1'
                    replace HU := Lib.hid (HU.out.trans hg)
                    clear hg
                    refine wpAnyH_take (i := 20) rfl (by kernel_rfl) (by kernel_rfl) (by kernel_rfl) (fun _ _ _ h => h) (Or.inl ⟨by rfl, by intro w hSw; (try dsimp only at hSw); go_simp; (try with_reducible rfl)⟩) (by assumption) ?_; (try simp only [Act.put, List.setIfInBounds_toArray, List.set_cons_zero, List.set_cons_succ, List.getElem_toArray, List.getElem_cons_zero, List.getElem_cons_succ])
                    refine wpAnyH_take (i := 21) rfl (by kernel_rfl) (by kernel_rfl) (by kernel_rfl) (fun _ _ _ h => h) (Or.inl ⟨by rfl, by intro w hSw; (try dsimp only at hSw); go_simp; (try with_reducible rfl)⟩) (by assumption) ?_; (try simp only [Act.put, List.setIfInBounds_toArray, List.set_cons_zero, List.set_cons_succ, List.getElem_toArray, List.getElem_cons_zero, List.getElem_cons_succ])
                    refine wpAnyH_take (i := 22) rfl (by kernel_rfl) (by kernel_rfl) (by kernel_rfl) (fun _ _ _ h => h) (Or.inl ⟨by rfl, by intro w hSw; (try dsimp only at hSw); go_simp; (try with_reducible rfl)⟩) (by assumption) ?_; (try simp only [Act.put, List.setIfInBounds_toArray, List.set_cons_zero, List.set_cons_succ, List.getElem_toArray, List.getElem_cons_zero, List.getElem_cons_succ])
                    refine wpAnyH_done (by kernel_rfl) ?_ _
                    clear hHeld C0'' C1'' S0'' S1''
                    clear c0 c1 c2 c3
                    go_wp2
                    go_roundw
                    case rel => exact ⟨k + 1, by go_num, by omega, by rw [show (V.take (k + 1)).any (betwP x s1 s2) = false by rw [HNx.out, HPv.out]; rfl], Lib.hid (HGr.out.trans ((Gr.refl wr).drew.trans HU.out))⟩
                    case measure => simp [intOf]; omega
            · obtain rfl : k = V.length := by omega
              replace HG := Lib.hid (HG.out.trans HGr.out)
              replace HT := Lib.hid (HT.out.gr HGr.out)
              replace HAk := Lib.hid (HGr.out.blk HAk.out)
              replace HF1 := Lib.hid (HGr.out.blk HF1.out)
              replace HF2 := Lib.hid (HGr.out.blk HF2.out)
              replace HW1 := Lib.hid (RdC.gr HW1.out HGr.out)
              replace HW2 := Lib.hid (RdC.gr HW2.out HGr.out)
              rw [List.take_length]
              rw [← HBt.out]
              clear HBt
              generalize betwB R key x s1 s2 = bt at *
              replace HG := Lib.hid (HG.out.trans (Gr.refl wr).drew)
              replace HW1 := Lib.hid (RdC.gr HW1.out (Gr.refl wr).drew)
              replace HW2 := Lib.hid (RdC.gr HW2.out (Gr.refl wr).drew)
              cases bt with
              | false =>
                obtain rfl : (⟨fk, fv, fi, fo, fsw, fsl, fway⟩ : Fnd) = g := HSame.out (by trivial) (by trivial) (.inl rfl)
                go_wp2
                have F0 : ∀ w', Gr wr.drew w' → w'.cell? ⟨fb, 0, none⟩ = some (.string fk) := cellRule (w := wr.drew) (cell_of HF1.out rfl)
                have F1 : ∀ w', Gr wr.drew w' → w'.cell? ⟨fb, 1, none⟩ = some (.string fv) := cellRule (w := wr.drew) (cell_of HF1.out rfl)
                have F2 : ∀ w', Gr wr.drew w' → w'.cell? ⟨fb, 2, none⟩ = some (.bool fi) := cellRule (w := wr.drew) (cell_of HF1.out rfl)
                have F3 : ∀ w', Gr wr.drew w' → w'.cell? ⟨fb, 3, none⟩ = some (.bool fo) := cellRule (w := wr.drew) (cell_of HF1.out rfl)
                have F4 : ∀ w', Gr wr.drew w' → w'.cell? ⟨fb, 4, none⟩ = some (.int .i64 fsw) := cellRule (w := wr.drew) (cell_of HF1.out rfl)
                have F5 : ∀ w', Gr wr.drew w' → w'.cell? ⟨fb, 5, none⟩ = some (.int .i64 fsl) := cellRule (w := wr.drew) (cell_of HF1.out rfl)
                have F6 : ∀ w', Gr wr.drew w' → w'.cell? ⟨fb, 6, none⟩ = some (.int .i64 fway.id) := cellRule (w := wr.drew) (cell_of HF1.out rfl)
                have F7 : ∀ w', Gr wr.drew w' → w'.cell? ⟨fb, 7, none⟩ = some (.int .i64 fway.epoch) := cellRule (w := wr.drew) (cell_of HF1.out rfl)
                have F8 : ∀ w', Gr wr.drew w' → w'.cell? ⟨fb, 8, none⟩ = some (.int .i64 fway.prio) := cellRule (w := wr.drew) (cell_of HF1.out rfl)
                have F9 : ∀ w', Gr wr.drew w' → w'.cell? ⟨fb, 9, none⟩ = some (.string fway.anchor) := cellRule (w := wr.drew) (cell_of HF1.out rfl)
                have F10 : ∀ w', Gr wr.drew w' → w'.cell? ⟨fb, 10, none⟩ = some (.int .i64 fway.sw) := cellRule (w := wr.drew) (cell_of HF1.out rfl)
                have F11 : ∀ w', Gr wr.drew w' → w'.cell? ⟨fb, 11, none⟩ = some (.int .i64 fway.sl) := cellRule (w := wr.drew) (cell_of HF1.out rfl)
                have F12 : ∀ w', Gr wr.drew w' → w'.cell? ⟨fb, 12, none⟩ = some (.int .i64 fway.bw) := cellRule (w := wr.drew) (cell_of HF1.out rfl)
                have F13 : ∀ w', Gr wr.drew w' → w'.cell? ⟨fb, 13, none⟩ = some (.int .i64 fway.bl) := cellRule (w := wr.drew) (cell_of HF1.out rfl)
                have F14 : ∀ w', Gr wr.drew w' → w'.cell? ⟨fb, 14, none⟩ = some (.slice q1 n1 c1) := cellRule (w := wr.drew) (cell_of HF1.out rfl)
                have G0 : ∀ w', Gr wr.drew w' → w'.cell? ⟨w7.heap.size, 0, none⟩ = some (.string fk) := cellRule (w := wr.drew) (cell_of HF2.out rfl)
                have G1 : ∀ w', Gr wr.drew w' → w'.cell? ⟨w7.heap.size, 1, none⟩ = some (.string fv) := cellRule (w := wr.drew) (cell_of HF2.out rfl)
                have G2 : ∀ w', Gr wr.drew w' → w'.cell? ⟨w7.heap.size, 2, none⟩ = some (.bool fi) := cellRule (w := wr.drew) (cell_of HF2.out rfl)
                have G3 : ∀ w', Gr wr.drew w' → w'.cell? ⟨w7.heap.size, 3, none⟩ = some (.bool fo) := cellRule (w := wr.drew) (cell_of HF2.out rfl)
                have G4 : ∀ w', Gr wr.drew w' → w'.cell? ⟨w7.heap.size, 4, none⟩ = some (.int .i64 fsw) := cellRule (w := wr.drew) (cell_of HF2.out rfl)
                have G5 : ∀ w', Gr wr.drew w' → w'.cell? ⟨w7.heap.size, 5, none⟩ = some (.int .i64 fsl) := cellRule (w := wr.drew) (cell_of HF2.out rfl)
                have G6 : ∀ w', Gr wr.drew w' → w'.cell? ⟨w7.heap.size, 6, none⟩ = some (.int .i64 fway.id) := cellRule (w := wr.drew) (cell_of HF2.out rfl)
                have G7 : ∀ w', Gr wr.drew w' → w'.cell? ⟨w7.heap.size, 7, none⟩ = some (.int .i64 fway.epoch) := cellRule (w := wr.drew) (cell_of HF2.out rfl)
                have G8 : ∀ w', Gr wr.drew w' → w'.cell? ⟨w7.heap.size, 8, none⟩ = some (.int .i64 fway.prio) := cellRule (w := wr.drew) (cell_of HF2.out rfl)
                have G9 : ∀ w', Gr wr.drew w' → w'.cell? ⟨w7.heap.size, 9, none⟩ = some (.string fway.anchor) := cellRule (w := wr.drew) (cell_of HF2.out rfl)
                have G10 : ∀ w', Gr wr.drew w' → w'.cell? ⟨w7.heap.size, 10, none⟩ = some (.int .i64 fway.sw) := cellRule (w := wr.drew) (cell_of HF2.out rfl)
                have G11 : ∀ w', Gr wr.drew w' → w'.cell? ⟨w7.heap.size, 11, none⟩ = some (.int .i64 fway.sl) := cellRule (w := wr.drew) (cell_of HF2.out rfl)
                have G12 : ∀ w', Gr wr.drew w' → w'.cell? ⟨w7.heap.size, 12, none⟩ = some (.int .i64 fway.bw) := cellRule (w := wr.drew) (cell_of HF2.out rfl)
                have G13 : ∀ w', Gr wr.drew w' → w'.cell? ⟨w7.heap.size, 13, none⟩ = some (.int .i64 fway.bl) := cellRule (w := wr.drew) (cell_of HF2.out rfl)
                have G14 : ∀ w', Gr wr.drew w' → w'.cell? ⟨w7.heap.size, 14, none⟩ = some (.slice q2 n2 c2) := cellRule (w := wr.drew) (cell_of HF2.out rfl)
                refine wp_region_held_drew (S := fun w' => Gr wr.drew w') (by kernel_rfl) (Gr.refl _) (fun hHeld => ?_)
                try dsimp only at hHeld
                refine wpAnyH_take (i := 0) rfl (by kernel_rfl) (by kernel_rfl) (by kernel_rfl) (fun _ _ _ h => h) (Or.inl ⟨by rfl, by intro w hSw; (try dsimp only at hSw); go_simp; (try with_reducible rfl)⟩) (by assumption) ?_; (try simp only [Act.put, List.setIfInBounds_toArray, List.set_cons_zero, List.set_cons_succ, List.getElem_toArray, List.getElem_cons_zero, List.getElem_cons_succ])
                refine wpAnyH_take (i := 1) rfl (by kernel_rfl) (by kernel_rfl) (by kernel_rfl) (fun _ _ _ h => h) (Or.inl ⟨by rfl, by intro w hSw; (try dsimp only at hSw); go_simp; (try with_reducible rfl)⟩) (by assumption) ?_; (try simp only [Act.put, List.setIfInBounds_toArray, List.set_cons_zero, List.set_cons_succ, List.getElem_toArray, List.getElem_cons_zero, List.getElem_cons_succ])
                refine wpAnyH_take (i := 2) rfl (by kernel_rfl) (by kernel_rfl) (by kernel_rfl) (fun _ _ _ h => h) (Or.inr ⟨by rfl, rfl⟩) (by assumption) ?_; (try simp only [Act.put, List.setIfInBounds_toArray, List.set_cons_zero, List.set_cons_succ, List.getElem_toArray, List.getElem_cons_zero, List.getElem_cons_succ])
                refine wpAnyH_take (i := 3) rfl (by kernel_rfl) (by kernel_rfl) (by kernel_rfl) (fun _ _ _ h => h) (Or.inr ⟨by rfl, rfl⟩) (by assumption) ?_; (try simp only [Act.put, List.setIfInBounds_toArray, List.set_cons_zero, List.set_cons_succ, List.getElem_toArray, List.getElem_cons_zero, List.getElem_cons_succ])
                refine wpAnyH_take (i := 4) rfl (by kernel_rfl) (by kernel_rfl) (by kernel_rfl) (fun _ _ _ h => h) (Or.inr ⟨by rfl, rfl⟩) (by assumption) ?_; (try simp only [Act.put, List.setIfInBounds_toArray, List.set_cons_zero, List.set_cons_succ, List.getElem_toArray, List.getElem_cons_zero, List.getElem_cons_succ])
                refine wpAnyH_take (i := 5) rfl (by kernel_rfl) (by kernel_rfl) (by kernel_rfl) (fun _ _ _ h => h) (Or.inl ⟨by rfl, by intro w hSw; (try dsimp only at hSw); go_simp; (try with_reducible rfl)⟩) (by assumption) ?_; (try simp only [Act.put, List.setIfInBounds_toArray, List.set_cons_zero, List.set_cons_succ, List.getElem_toArray, List.getElem_cons_zero, List.getElem_cons_succ])
                refine wpAnyH_take (i := 6) rfl (by kernel_rfl) (by kernel_rfl) (by kernel_rfl) (fun _ _ _ h => h) (Or.inl ⟨by rfl, by intro w hSw; (try dsimp only at hSw); go_simp; (try with_reducible rfl)⟩) (by assumption) ?_; (try simp only [Act.put, List.setIfInBounds_toArray, List.set_cons_zero, List.set_cons_succ, List.getElem_toArray, List.getElem_cons_zero, List.getElem_cons_succ])
                refine wpAnyH_take (i := 7) rfl (by kernel_rfl) (by kernel_rfl) (by kernel_rfl) (fun _ _ _ h => h) (Or.inl ⟨by rfl, by intro w hSw; (try dsimp only at hSw); go_simp; (try with_reducible rfl)⟩) (by assumption) ?_; (try simp only [Act.put, List.setIfInBounds_toArray, List.set_cons_zero, List.set_cons_succ, List.getElem_toArray, List.getElem_cons_zero, List.getElem_cons_succ])
                refine wpAnyH_take (i := 9) rfl (by kernel_rfl) (by kernel_rfl) (by kernel_rfl) (fun _ _ _ h => h) (Or.inl ⟨by rfl, by intro w hSw; (try dsimp only at hSw); go_simp; (try with_reducible rfl)⟩) (by assumption) ?_; (try simp only [Act.put, List.setIfInBounds_toArray, List.set_cons_zero, List.set_cons_succ, List.getElem_toArray, List.getElem_cons_zero, List.getElem_cons_succ])
                refine wpAnyH_ready (rs := [8]) (by kernel_rfl) (by simp) ?_
                refine AllReadyH.cons rfl (fun K hK => ?_) AllReadyH.nil
                go_simp
                refine (found12 ⟨fk, fv, fi, fo, fsw, fsl, fway⟩ q1 n1 c1 _).mono ?_
                rintro e u0 ⟨rfl, hg⟩
                refine hK.out _ _ hg (fun _ => wpAnyH_turn hg (fun hHeld => ?_))
                clear hK K
                try dsimp only at hHeld
                have G0' := Rule.turn G0 hg
                have G1' := Rule.turn G1 hg
                have G2' := Rule.turn G2 hg
                have G3' := Rule.turn G3 hg
                have G4' := Rule.turn G4 hg
                have G5' := Rule.turn G5 hg
                have G6' := Rule.turn G6 hg
                have G7' := Rule.turn G7 hg
                have G8' := Rule.turn G8 hg
                have G9' := Rule.turn G9 hg
                have G10' := Rule.turn G10 hg
                have G11' := Rule.turn G11 hg
                have G12' := Rule.turn G12 hg
                have G13' := Rule.turn G13 hg
                have G14' := Rule.turn G14 hg
                clear F0 F1 F2 F3 F4 F5 F6 F7 F8 F9 F10 F11 F12 F13 F14 G0 G1 G2 G3 G4 G5 G6 G7 G8 G9 G10 G11 G12 G13 G14
                replace HG := Lib.hid (HG.out.trans hg)
                replace HW1 := Lib.hid (RdC.gr HW1.out hg)
                replace HW2 := Lib.hid (RdC.gr HW2.out hg)
                clear hg
                refine wpAnyH_ready (rs := [10]) (by kernel_rfl) (by simp) ?_
                refine AllReadyH.cons rfl (fun K hK => ?_) AllReadyH.nil
                go_simp
                refine (found12 ⟨fk, fv, fi, fo, fsw, fsl, fway⟩ q2 n2 c2 _).mono ?_
                rintro e u1 ⟨rfl, hg⟩
                refine hK.out _ _ hg (fun _ => wpAnyH_turn hg (fun hHeld => ?_))
                clear hK K
                try dsimp only at hHeld
                clear G0' G1' G2' G3' G4' G5' G6' G7' G8' G9' G10' G11' G12' G13' G14'
                replace HG := Lib.hid (HG.out.trans hg)
                replace HW1 := Lib.hid (RdC.gr HW1.out hg)
                replace HW2 := Lib.hid (RdC.gr HW2.out hg)
                clear hg
                refine wpAnyH_ready (rs := [11]) (by kernel_rfl) (by simp) ?_
                refine AllReadyH.cons rfl (fun K hK => ?_) AllReadyH.nil
                go_simp
                refine (refSame12 ⟨fk, fv, fi, fo, fsw, fsl, fway⟩ HW1.out HW2.out (Nat.le_trans HW1y.out (by decide))).mono ?_
                rintro e u2 ⟨rfl, hg⟩
                refine hK.out _ _ hg (fun _ => wpAnyH_turn hg (fun hHeld => ?_))
                clear hK K
                try dsimp only at hHeld
                replace HG := Lib.hid (HG.out.trans hg)
                replace HW1 := Lib.hid (RdC.gr HW1.out hg)
                replace HW2 := Lib.hid (RdC.gr HW2.out hg)
                clear hg
                refine wpAnyH_take (i := 12) rfl (by kernel_rfl) (by kernel_rfl) (by kernel_rfl) (fun _ _ _ h => h) (Or.inl ⟨by rfl, by intro w hSw; (try dsimp only at hSw); go_simp; (try with_reducible rfl)⟩) (by assumption) ?_; (try simp only [Act.put, List.setIfInBounds_toArray, List.set_cons_zero, List.set_cons_succ, List.getElem_toArray, List.getElem_cons_zero, List.getElem_cons_succ])
                refine wpAnyH_take (i := 13) rfl (by kernel_rfl) (by kernel_rfl) (by kernel_rfl) (fun _ _ _ h => h) (Or.inl ⟨by rfl, by intro w hSw; (try dsimp only at hSw); go_simp; (try with_reducible rfl)⟩) (by assumption) ?_; (try simp only [Act.put, List.setIfInBounds_toArray, List.set_cons_zero, List.set_cons_succ, List.getElem_toArray, List.getElem_cons_zero, List.getElem_cons_succ])
                refine wpAnyH_ready (rs := [14]) (by kernel_rfl) (by simp) ?_
                refine AllReadyH.cons rfl (fun K hK => ?_) AllReadyH.nil
                go_simp
                refine (awake12 (HSh.out.gr HG.out)).mono ?_
                rintro e u3 ⟨rfl, hg⟩
                refine hK.out _ _ hg (fun _ => wpAnyH_turn hg (fun hHeld => ?_))
                clear hK K
                try dsimp only at hHeld
                replace HG := Lib.hid (HG.out.trans hg)
                replace HW1 := Lib.hid (RdC.gr HW1.out hg)
                replace HW2 := Lib.hid (RdC.gr HW2.out hg)
                clear hg
                refine wpAnyH_take (i := 15) rfl (by kernel_rfl) (by kernel_rfl) (by kernel_rfl) (fun _ _ _ h => h) (Or.inl ⟨by rfl, by intro w hSw; (try dsimp only at hSw); go_simp; (try with_reducible rfl)⟩) (by assumption) ?_; (try simp only [Act.put, List.setIfInBounds_toArray, List.set_cons_zero, List.set_cons_succ, List.getElem_toArray, List.getElem_cons_zero, List.getElem_cons_succ])
                refine wpAnyH_take (i := 16) rfl (by kernel_rfl) (by kernel_rfl) (by kernel_rfl) (fun _ _ _ h => h) (Or.inl ⟨by rfl, by intro w hSw; (try dsimp only at hSw); go_simp; (try with_reducible rfl)⟩) (by assumption) ?_; (try simp only [Act.put, List.setIfInBounds_toArray, List.set_cons_zero, List.set_cons_succ, List.getElem_toArray, List.getElem_cons_zero, List.getElem_cons_succ])
                refine wpAnyH_done (by kernel_rfl) ?_ _
                clear hHeld
                go_wp2
                go_ret
                exact ⟨rfl, HG.out⟩
              | true =>
                cases fo with
                | true =>
                  obtain rfl : (⟨fk, fv, fi, true, fsw, fsl, fway⟩ : Fnd) = g := HSame.out (by trivial) (by trivial) (.inr rfl)
                  go_wp2
                  have F0 : ∀ w', Gr wr.drew w' → w'.cell? ⟨fb, 0, none⟩ = some (.string fk) := cellRule (w := wr.drew) (cell_of HF1.out rfl)
                  have F1 : ∀ w', Gr wr.drew w' → w'.cell? ⟨fb, 1, none⟩ = some (.string fv) := cellRule (w := wr.drew) (cell_of HF1.out rfl)
                  have F2 : ∀ w', Gr wr.drew w' → w'.cell? ⟨fb, 2, none⟩ = some (.bool fi) := cellRule (w := wr.drew) (cell_of HF1.out rfl)
                  have F3 : ∀ w', Gr wr.drew w' → w'.cell? ⟨fb, 3, none⟩ = some (.bool true) := cellRule (w := wr.drew) (cell_of HF1.out rfl)
                  have F4 : ∀ w', Gr wr.drew w' → w'.cell? ⟨fb, 4, none⟩ = some (.int .i64 fsw) := cellRule (w := wr.drew) (cell_of HF1.out rfl)
                  have F5 : ∀ w', Gr wr.drew w' → w'.cell? ⟨fb, 5, none⟩ = some (.int .i64 fsl) := cellRule (w := wr.drew) (cell_of HF1.out rfl)
                  have F6 : ∀ w', Gr wr.drew w' → w'.cell? ⟨fb, 6, none⟩ = some (.int .i64 fway.id) := cellRule (w := wr.drew) (cell_of HF1.out rfl)
                  have F7 : ∀ w', Gr wr.drew w' → w'.cell? ⟨fb, 7, none⟩ = some (.int .i64 fway.epoch) := cellRule (w := wr.drew) (cell_of HF1.out rfl)
                  have F8 : ∀ w', Gr wr.drew w' → w'.cell? ⟨fb, 8, none⟩ = some (.int .i64 fway.prio) := cellRule (w := wr.drew) (cell_of HF1.out rfl)
                  have F9 : ∀ w', Gr wr.drew w' → w'.cell? ⟨fb, 9, none⟩ = some (.string fway.anchor) := cellRule (w := wr.drew) (cell_of HF1.out rfl)
                  have F10 : ∀ w', Gr wr.drew w' → w'.cell? ⟨fb, 10, none⟩ = some (.int .i64 fway.sw) := cellRule (w := wr.drew) (cell_of HF1.out rfl)
                  have F11 : ∀ w', Gr wr.drew w' → w'.cell? ⟨fb, 11, none⟩ = some (.int .i64 fway.sl) := cellRule (w := wr.drew) (cell_of HF1.out rfl)
                  have F12 : ∀ w', Gr wr.drew w' → w'.cell? ⟨fb, 12, none⟩ = some (.int .i64 fway.bw) := cellRule (w := wr.drew) (cell_of HF1.out rfl)
                  have F13 : ∀ w', Gr wr.drew w' → w'.cell? ⟨fb, 13, none⟩ = some (.int .i64 fway.bl) := cellRule (w := wr.drew) (cell_of HF1.out rfl)
                  have F14 : ∀ w', Gr wr.drew w' → w'.cell? ⟨fb, 14, none⟩ = some (.slice q1 n1 c1) := cellRule (w := wr.drew) (cell_of HF1.out rfl)
                  have G0 : ∀ w', Gr wr.drew w' → w'.cell? ⟨w7.heap.size, 0, none⟩ = some (.string fk) := cellRule (w := wr.drew) (cell_of HF2.out rfl)
                  have G1 : ∀ w', Gr wr.drew w' → w'.cell? ⟨w7.heap.size, 1, none⟩ = some (.string fv) := cellRule (w := wr.drew) (cell_of HF2.out rfl)
                  have G2 : ∀ w', Gr wr.drew w' → w'.cell? ⟨w7.heap.size, 2, none⟩ = some (.bool fi) := cellRule (w := wr.drew) (cell_of HF2.out rfl)
                  have G3 : ∀ w', Gr wr.drew w' → w'.cell? ⟨w7.heap.size, 3, none⟩ = some (.bool true) := cellRule (w := wr.drew) (cell_of HF2.out rfl)
                  have G4 : ∀ w', Gr wr.drew w' → w'.cell? ⟨w7.heap.size, 4, none⟩ = some (.int .i64 fsw) := cellRule (w := wr.drew) (cell_of HF2.out rfl)
                  have G5 : ∀ w', Gr wr.drew w' → w'.cell? ⟨w7.heap.size, 5, none⟩ = some (.int .i64 fsl) := cellRule (w := wr.drew) (cell_of HF2.out rfl)
                  have G6 : ∀ w', Gr wr.drew w' → w'.cell? ⟨w7.heap.size, 6, none⟩ = some (.int .i64 fway.id) := cellRule (w := wr.drew) (cell_of HF2.out rfl)
                  have G7 : ∀ w', Gr wr.drew w' → w'.cell? ⟨w7.heap.size, 7, none⟩ = some (.int .i64 fway.epoch) := cellRule (w := wr.drew) (cell_of HF2.out rfl)
                  have G8 : ∀ w', Gr wr.drew w' → w'.cell? ⟨w7.heap.size, 8, none⟩ = some (.int .i64 fway.prio) := cellRule (w := wr.drew) (cell_of HF2.out rfl)
                  have G9 : ∀ w', Gr wr.drew w' → w'.cell? ⟨w7.heap.size, 9, none⟩ = some (.string fway.anchor) := cellRule (w := wr.drew) (cell_of HF2.out rfl)
                  have G10 : ∀ w', Gr wr.drew w' → w'.cell? ⟨w7.heap.size, 10, none⟩ = some (.int .i64 fway.sw) := cellRule (w := wr.drew) (cell_of HF2.out rfl)
                  have G11 : ∀ w', Gr wr.drew w' → w'.cell? ⟨w7.heap.size, 11, none⟩ = some (.int .i64 fway.sl) := cellRule (w := wr.drew) (cell_of HF2.out rfl)
                  have G12 : ∀ w', Gr wr.drew w' → w'.cell? ⟨w7.heap.size, 12, none⟩ = some (.int .i64 fway.bw) := cellRule (w := wr.drew) (cell_of HF2.out rfl)
                  have G13 : ∀ w', Gr wr.drew w' → w'.cell? ⟨w7.heap.size, 13, none⟩ = some (.int .i64 fway.bl) := cellRule (w := wr.drew) (cell_of HF2.out rfl)
                  have G14 : ∀ w', Gr wr.drew w' → w'.cell? ⟨w7.heap.size, 14, none⟩ = some (.slice q2 n2 c2) := cellRule (w := wr.drew) (cell_of HF2.out rfl)
                  refine wp_region_held_drew (S := fun w' => Gr wr.drew w') (by kernel_rfl) (Gr.refl _) (fun hHeld => ?_)
                  try dsimp only at hHeld
                  refine wpAnyH_take (i := 0) rfl (by kernel_rfl) (by kernel_rfl) (by kernel_rfl) (fun _ _ _ h => h) (Or.inl ⟨by rfl, by intro w hSw; (try dsimp only at hSw); go_simp; (try with_reducible rfl)⟩) (by assumption) ?_; (try simp only [Act.put, List.setIfInBounds_toArray, List.set_cons_zero, List.set_cons_succ, List.getElem_toArray, List.getElem_cons_zero, List.getElem_cons_succ])
                  refine wpAnyH_take (i := 1) rfl (by kernel_rfl) (by kernel_rfl) (by kernel_rfl) (fun _ _ _ h => h) (Or.inl ⟨by rfl, by intro w hSw; (try dsimp only at hSw); go_simp; (try with_reducible rfl)⟩) (by assumption) ?_; (try simp only [Act.put, List.setIfInBounds_toArray, List.set_cons_zero, List.set_cons_succ, List.getElem_toArray, List.getElem_cons_zero, List.getElem_cons_succ])
                  refine wpAnyH_take (i := 2) rfl (by kernel_rfl) (by kernel_rfl) (by kernel_rfl) (fun _ _ _ h => h) (Or.inl ⟨by rfl, by intro w hSw; (try dsimp only at hSw); go_simp; (try with_reducible rfl)⟩) (by assumption) ?_; (try simp only [Act.put, List.setIfInBounds_toArray, List.set_cons_zero, List.set_cons_succ, List.getElem_toArray, List.getElem_cons_zero, List.getElem_cons_succ])
                  refine wpAnyH_take (i := 3) rfl (by kernel_rfl) (by kernel_rfl) (by kernel_rfl) (fun _ _ _ h => h) (Or.inl ⟨by rfl, by intro w hSw; (try dsimp only at hSw); go_simp; (try with_reducible rfl)⟩) (by assumption) ?_; (try simp only [Act.put, List.setIfInBounds_toArray, List.set_cons_zero, List.set_cons_succ, List.getElem_toArray, List.getElem_cons_zero, List.getElem_cons_succ])
                  refine wpAnyH_take (i := 4) rfl (by kernel_rfl) (by kernel_rfl) (by kernel_rfl) (fun _ _ _ h => h) (Or.inl ⟨by rfl, by intro w hSw; (try dsimp only at hSw); go_simp; (try with_reducible rfl)⟩) (by assumption) ?_; (try simp only [Act.put, List.setIfInBounds_toArray, List.set_cons_zero, List.set_cons_succ, List.getElem_toArray, List.getElem_cons_zero, List.getElem_cons_succ])
                  refine wpAnyH_take (i := 5) rfl (by kernel_rfl) (by kernel_rfl) (by kernel_rfl) (fun _ _ _ h => h) (Or.inl ⟨by rfl, by intro w hSw; (try dsimp only at hSw); go_simp; (try with_reducible rfl)⟩) (by assumption) ?_; (try simp only [Act.put, List.setIfInBounds_toArray, List.set_cons_zero, List.set_cons_succ, List.getElem_toArray, List.getElem_cons_zero, List.getElem_cons_succ])
                  refine wpAnyH_take (i := 6) rfl (by kernel_rfl) (by kernel_rfl) (by kernel_rfl) (fun _ _ _ h => h) (Or.inl ⟨by rfl, by intro w hSw; (try dsimp only at hSw); go_simp; (try with_reducible rfl)⟩) (by assumption) ?_; (try simp only [Act.put, List.setIfInBounds_toArray, List.set_cons_zero, List.set_cons_succ, List.getElem_toArray, List.getElem_cons_zero, List.getElem_cons_succ])
                  refine wpAnyH_take (i := 7) rfl (by kernel_rfl) (by kernel_rfl) (by kernel_rfl) (fun _ _ _ h => h) (Or.inl ⟨by rfl, by intro w hSw; (try dsimp only at hSw); go_simp; (try with_reducible rfl)⟩) (by assumption) ?_; (try simp only [Act.put, List.setIfInBounds_toArray, List.set_cons_zero, List.set_cons_succ, List.getElem_toArray, List.getElem_cons_zero, List.getElem_cons_succ])
                  refine wpAnyH_take (i := 9) rfl (by kernel_rfl) (by kernel_rfl) (by kernel_rfl) (fun _ _ _ h => h) (Or.inl ⟨by rfl, by intro w hSw; (try dsimp only at hSw); go_simp; (try with_reducible rfl)⟩) (by assumption) ?_; (try simp only [Act.put, List.setIfInBounds_toArray, List.set_cons_zero, List.set_cons_succ, List.getElem_toArray, List.getElem_cons_zero, List.getElem_cons_succ])
                  refine wpAnyH_ready (rs := [8]) (by kernel_rfl) (by simp) ?_
                  refine AllReadyH.cons rfl (fun K hK => ?_) AllReadyH.nil
                  go_simp
                  refine (found12 ⟨fk, fv, fi, true, fsw, fsl, fway⟩ q1 n1 c1 _).mono ?_
                  rintro e u0 ⟨rfl, hg⟩
                  refine hK.out _ _ hg (fun _ => wpAnyH_turn hg (fun hHeld => ?_))
                  clear hK K
                  try dsimp only at hHeld
                  have G0' := Rule.turn G0 hg
                  have G1' := Rule.turn G1 hg
                  have G2' := Rule.turn G2 hg
                  have G3' := Rule.turn G3 hg
                  have G4' := Rule.turn G4 hg
                  have G5' := Rule.turn G5 hg
                  have G6' := Rule.turn G6 hg
                  have G7' := Rule.turn G7 hg
                  have G8' := Rule.turn G8 hg
                  have G9' := Rule.turn G9 hg
                  have G10' := Rule.turn G10 hg
                  have G11' := Rule.turn G11 hg
                  have G12' := Rule.turn G12 hg
                  have G13' := Rule.turn G13 hg
                  have G14' := Rule.turn G14 hg
                  clear F0 F1 F2 F3 F4 F5 F6 F7 F8 F9 F10 F11 F12 F13 F14 G0 G1 G2 G3 G4 G5 G6 G7 G8 G9 G10 G11 G12 G13 G14
                  replace HG := Lib.hid (HG.out.trans hg)
                  replace HW1 := Lib.hid (RdC.gr HW1.out hg)
                  replace HW2 := Lib.hid (RdC.gr HW2.out hg)
                  clear hg
                  refine wpAnyH_ready (rs := [10]) (by kernel_rfl) (by simp) ?_
                  refine AllReadyH.cons rfl (fun K hK => ?_) AllReadyH.nil
                  go_simp
                  refine (found12 ⟨fk, fv, fi, true, fsw, fsl, fway⟩ q2 n2 c2 _).mono ?_
                  rintro e u1 ⟨rfl, hg⟩
                  refine hK.out _ _ hg (fun _ => wpAnyH_turn hg (fun hHeld => ?_))
                  clear hK K
                  try dsimp only at hHeld
                  clear G0' G1' G2' G3' G4' G5' G6' G7' G8' G9' G10' G11' G12' G13' G14'
                  replace HG := Lib.hid (HG.out.trans hg)
                  replace HW1 := Lib.hid (RdC.gr HW1.out hg)
                  replace HW2 := Lib.hid (RdC.gr HW2.out hg)
                  clear hg
                  refine wpAnyH_ready (rs := [11]) (by kernel_rfl) (by simp) ?_
                  refine AllReadyH.cons rfl (fun K hK => ?_) AllReadyH.nil
                  go_simp
                  refine (refSame12 ⟨fk, fv, fi, true, fsw, fsl, fway⟩ HW1.out HW2.out (Nat.le_trans HW1y.out (by decide))).mono ?_
                  rintro e u2 ⟨rfl, hg⟩
                  refine hK.out _ _ hg (fun _ => wpAnyH_turn hg (fun hHeld => ?_))
                  clear hK K
                  try dsimp only at hHeld
                  replace HG := Lib.hid (HG.out.trans hg)
                  replace HW1 := Lib.hid (RdC.gr HW1.out hg)
                  replace HW2 := Lib.hid (RdC.gr HW2.out hg)
                  clear hg
                  refine wpAnyH_take (i := 12) rfl (by kernel_rfl) (by kernel_rfl) (by kernel_rfl) (fun _ _ _ h => h) (Or.inl ⟨by rfl, by intro w hSw; (try dsimp only at hSw); go_simp; (try with_reducible rfl)⟩) (by assumption) ?_; (try simp only [Act.put, List.setIfInBounds_toArray, List.set_cons_zero, List.set_cons_succ, List.getElem_toArray, List.getElem_cons_zero, List.getElem_cons_succ])
                  refine wpAnyH_take (i := 13) rfl (by kernel_rfl) (by kernel_rfl) (by kernel_rfl) (fun _ _ _ h => h) (Or.inl ⟨by rfl, by intro w hSw; (try dsimp only at hSw); go_simp; (try with_reducible rfl)⟩) (by assumption) ?_; (try simp only [Act.put, List.setIfInBounds_toArray, List.set_cons_zero, List.set_cons_succ, List.getElem_toArray, List.getElem_cons_zero, List.getElem_cons_succ])
                  refine wpAnyH_ready (rs := [14]) (by kernel_rfl) (by simp) ?_
                  refine AllReadyH.cons rfl (fun K hK => ?_) AllReadyH.nil
                  go_simp
                  refine (awake12 (HSh.out.gr HG.out)).mono ?_
                  rintro e u3 ⟨rfl, hg⟩
                  refine hK.out _ _ hg (fun _ => wpAnyH_turn hg (fun hHeld => ?_))
                  clear hK K
                  try dsimp only at hHeld
                  replace HG := Lib.hid (HG.out.trans hg)
                  replace HW1 := Lib.hid (RdC.gr HW1.out hg)
                  replace HW2 := Lib.hid (RdC.gr HW2.out hg)
                  clear hg
                  refine wpAnyH_take (i := 15) rfl (by kernel_rfl) (by kernel_rfl) (by kernel_rfl) (fun _ _ _ h => h) (Or.inl ⟨by rfl, by intro w hSw; (try dsimp only at hSw); go_simp; (try with_reducible rfl)⟩) (by assumption) ?_; (try simp only [Act.put, List.setIfInBounds_toArray, List.set_cons_zero, List.set_cons_succ, List.getElem_toArray, List.getElem_cons_zero, List.getElem_cons_succ])
                  refine wpAnyH_take (i := 16) rfl (by kernel_rfl) (by kernel_rfl) (by kernel_rfl) (fun _ _ _ h => h) (Or.inl ⟨by rfl, by intro w hSw; (try dsimp only at hSw); go_simp; (try with_reducible rfl)⟩) (by assumption) ?_; (try simp only [Act.put, List.setIfInBounds_toArray, List.set_cons_zero, List.set_cons_succ, List.getElem_toArray, List.getElem_cons_zero, List.getElem_cons_succ])
                  refine wpAnyH_done (by kernel_rfl) ?_ _
                  clear hHeld
                  go_wp2
                  go_ret
                  exact ⟨rfl, HG.out⟩
                | false =>
                  go_wp2
                  have E3 : ∀ w', Gr wr.drew w' → w'.cell? ⟨fb, 3, none⟩ = some (.bool false) := cellRule (w := wr.drew) (cell_of HF1.out rfl)
                  refine wp_region_held_drew (S := fun w' => Gr wr.drew w') (by kernel_rfl) (Gr.refl _) (fun hHeld => ?_)
                  try dsimp only at hHeld
                  refine wpAnyH_take (i := 0) rfl (by kernel_rfl) (by kernel_rfl) (by kernel_rfl) (fun _ _ _ h => h) (Or.inl ⟨by rfl, by intro w hSw; (try dsimp only at hSw); go_simp; (try with_reducible rfl)⟩) (by assumption) ?_; (try simp only [Act.put, List.setIfInBounds_toArray, List.set_cons_zero, List.set_cons_succ, List.getElem_toArray, List.getElem_cons_zero, List.getElem_cons_succ])
                  refine wpAnyH_take (i := 1) rfl (by kernel_rfl) (by kernel_rfl) (by kernel_rfl) (fun _ _ _ h => h) (Or.inl ⟨by rfl, by intro w hSw; (try dsimp only at hSw); go_simp; (try with_reducible rfl)⟩) (by assumption) ?_; (try simp only [Act.put, List.setIfInBounds_toArray, List.set_cons_zero, List.set_cons_succ, List.getElem_toArray, List.getElem_cons_zero, List.getElem_cons_succ])
                  refine wpAnyH_take (i := 2) rfl (by kernel_rfl) (by kernel_rfl) (by kernel_rfl) (fun _ _ _ h => h) (Or.inl ⟨by rfl, by intro w hSw; (try dsimp only at hSw); go_simp; (try with_reducible rfl)⟩) (by assumption) ?_; (try simp only [Act.put, List.setIfInBounds_toArray, List.set_cons_zero, List.set_cons_succ, List.getElem_toArray, List.getElem_cons_zero, List.getElem_cons_succ])
                  refine wpAnyH_take (i := 3) rfl (by kernel_rfl) (by kernel_rfl) (by kernel_rfl) (fun _ _ _ h => h) (Or.inl ⟨by rfl, by intro w hSw; (try dsimp only at hSw); go_simp; (try with_reducible rfl)⟩) (by assumption) ?_; (try simp only [Act.put, List.setIfInBounds_toArray, List.set_cons_zero, List.set_cons_succ, List.getElem_toArray, List.getElem_cons_zero, List.getElem_cons_succ])
                  refine wpAnyH_take (i := 4) rfl (by kernel_rfl) (by kernel_rfl) (by kernel_rfl) (fun _ _ _ h => h) (Or.inl ⟨by rfl, by intro w hSw; (try dsimp only at hSw); go_simp; (try with_reducible rfl)⟩) (by assumption) ?_; (try simp only [Act.put, List.setIfInBounds_toArray, List.set_cons_zero, List.set_cons_succ, List.getElem_toArray, List.getElem_cons_zero, List.getElem_cons_succ])
                  refine wpAnyH_take (i := 5) rfl (by kernel_rfl) (by kernel_rfl) (by kernel_rfl) (fun _ _ _ h => h) (Or.inl ⟨by rfl, by intro w hSw; (try dsimp only at hSw); go_simp; (try with_reducible rfl)⟩) (by assumption) ?_; (try simp only [Act.put, List.setIfInBounds_toArray, List.set_cons_zero, List.set_cons_succ, List.getElem_toArray, List.getElem_cons_zero, List.getElem_cons_succ])
                  refine wpAnyH_take (i := 6) rfl (by kernel_rfl) (by kernel_rfl) (by kernel_rfl) (fun _ _ _ h => h) (Or.inl ⟨by rfl, by intro w hSw; (try dsimp only at hSw); go_simp; (try with_reducible rfl)⟩) (by assumption) ?_; (try simp only [Act.put, List.setIfInBounds_toArray, List.set_cons_zero, List.set_cons_succ, List.getElem_toArray, List.getElem_cons_zero, List.getElem_cons_succ])
                  refine wpAnyH_take (i := 7) rfl (by kernel_rfl) (by kernel_rfl) (by kernel_rfl) (fun _ _ _ h => h) (Or.inr ⟨by rfl, rfl⟩) (by assumption) ?_; (try simp only [Act.put, List.setIfInBounds_toArray, List.set_cons_zero, List.set_cons_succ, List.getElem_toArray, List.getElem_cons_zero, List.getElem_cons_succ])
                  refine wpAnyH_take (i := 8) rfl (by kernel_rfl) (by kernel_rfl) (by kernel_rfl) (fun _ _ _ h => h) (Or.inr ⟨by rfl, rfl⟩) (by assumption) ?_; (try simp only [Act.put, List.setIfInBounds_toArray, List.set_cons_zero, List.set_cons_succ, List.getElem_toArray, List.getElem_cons_zero, List.getElem_cons_succ])
                  refine wpAnyH_take (i := 9) rfl (by kernel_rfl) (by kernel_rfl) (by kernel_rfl) (fun _ _ _ h => h) (Or.inr ⟨by rfl, rfl⟩) (by assumption) ?_; (try simp only [Act.put, List.setIfInBounds_toArray, List.set_cons_zero, List.set_cons_succ, List.getElem_toArray, List.getElem_cons_zero, List.getElem_cons_succ])
                  refine wpAnyH_take (i := 10) rfl (by kernel_rfl) (by kernel_rfl) (by kernel_rfl) (fun _ _ _ h => h) (Or.inr ⟨by rfl, rfl⟩) (by assumption) ?_; (try simp only [Act.put, List.setIfInBounds_toArray, List.set_cons_zero, List.set_cons_succ, List.getElem_toArray, List.getElem_cons_zero, List.getElem_cons_succ])
                  refine wpAnyH_take (i := 11) rfl (by kernel_rfl) (by kernel_rfl) (by kernel_rfl) (fun _ _ _ h => h) (Or.inr ⟨by rfl, rfl⟩) (by assumption) ?_; (try simp only [Act.put, List.setIfInBounds_toArray, List.set_cons_zero, List.set_cons_succ, List.getElem_toArray, List.getElem_cons_zero, List.getElem_cons_succ])
                  refine wpAnyH_take (i := 12) rfl (by kernel_rfl) (by kernel_rfl) (by kernel_rfl) (fun _ _ _ h => h) (Or.inl ⟨by rfl, by intro w hSw; (try dsimp only at hSw); go_simp; (try with_reducible rfl)⟩) (by assumption) ?_; (try simp only [Act.put, List.setIfInBounds_toArray, List.set_cons_zero, List.set_cons_succ, List.getElem_toArray, List.getElem_cons_zero, List.getElem_cons_succ])
                  refine wpAnyH_take (i := 13) rfl (by kernel_rfl) (by kernel_rfl) (by kernel_rfl) (fun _ _ _ h => h) (Or.inl ⟨by rfl, by intro w hSw; (try dsimp only at hSw); go_simp; (try with_reducible rfl)⟩) (by assumption) ?_; (try simp only [Act.put, List.setIfInBounds_toArray, List.set_cons_zero, List.set_cons_succ, List.getElem_toArray, List.getElem_cons_zero, List.getElem_cons_succ])
                  refine wpAnyH_ready (rs := [14]) (by kernel_rfl) (by simp) ?_
                  refine AllReadyH.cons rfl (fun K hK => ?_) AllReadyH.nil
                  go_simp
                  refine (awake12 (HSh.out.gr HG.out)).mono ?_
                  rintro e u0 ⟨rfl, hg⟩
                  refine hK.out _ _ hg (fun _ => wpAnyH_turn hg (fun hHeld => ?_))
                  clear hK K
                  try dsimp only at hHeld
                  clear E3
                  replace HG := Lib.hid (HG.out.trans hg)
                  replace HW1 := Lib.hid (RdC.gr HW1.out hg)
                  replace HW2 := Lib.hid (RdC.gr HW2.out hg)
                  clear hg
                  refine wpAnyH_take (i := 15) rfl (by kernel_rfl) (by kernel_rfl) (by kernel_rfl) (fun _ _ _ h => h) (Or.inl ⟨by rfl, by intro w hSw; (try dsimp only at hSw); go_simp; (try with_reducible rfl)⟩) (by assumption) ?_; (try simp only [Act.put, List.setIfInBounds_toArray, List.set_cons_zero, List.set_cons_succ, List.getElem_toArray, List.getElem_cons_zero, List.getElem_cons_succ])
                  refine wpAnyH_take (i := 16) rfl (by kernel_rfl) (by kernel_rfl) (by kernel_rfl) (fun _ _ _ h => h) (Or.inl ⟨by rfl, by intro w hSw; (try dsimp only at hSw); go_simp; (try with_reducible rfl)⟩) (by assumption) ?_; (try simp only [Act.put, List.setIfInBounds_toArray, List.set_cons_zero, List.set_cons_succ, List.getElem_toArray, List.getElem_cons_zero, List.getElem_cons_succ])
                  refine wpAnyH_done (by kernel_rfl) ?_ _
                  clear hHeld
                  go_wp2
                  go_ret
                  exact ⟨rfl, HG.out⟩
        · have hb2 : (e2 == 0) = false := by simpa using he2
          clear he2
          unfold fndA at *
          dsimp only at *
          go_wp2_with fail
          refine (awake12 (HSh.out.gr HG.out)).mono ?_
          rintro e wz ⟨rfl, hg⟩
          go_wp2
          go_ret
          exact ⟨rfl, HG.out.trans hg⟩
      · have hb1 : (e1 == 0) = false := by simpa using he1
        clear he1
        unfold fndA at *
        dsimp only at *
        go_wp2_with fail
        refine (awake12 (HSh.out.gr HG.out)).mono ?_
        rintro e wz ⟨rfl, hg⟩
        go_wp2
        go_ret
        exact ⟨rfl, HG.out.trans hg⟩
end Go.Proofs.YthgecojbggoniaaGreatDoor
