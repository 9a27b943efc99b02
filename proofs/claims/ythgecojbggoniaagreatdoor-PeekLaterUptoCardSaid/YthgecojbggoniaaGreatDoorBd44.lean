/- What the rows stand on, part 44: PekH. Printed by bundle.py out of my texts. -/
import Derived.Test.YthgecojbggoniaaGreatDoorBd12
import Derived.Test.YthgecojbggoniaaGreatDoorBd16
import Derived.Test.YthgecojbggoniaaGreatDoorBd43
namespace Go.Proofs.YthgecojbggoniaaGreatDoor
open Go.RowKit
set_option maxRecDepth 100000
set_option linter.unusedVariables false
set_option linter.unusedSimpArgs false
set_option linter.unnecessarySimpa false

theorem first_cons (s : ByteArray) (h : 0 < s.size) : s.data.toList = s[0] :: s.data.toList.drop 1 := by
  have := drop_cons2 s 0 h
  simpa using this
theorem u8_ne118 {c : UInt8} (n : UInt8) (h : c ≠ n) : ((c.toNat : Int) != (n.toNat : Int)) = true := by
  rw [bne_iff_ne]
  intro e
  exact h (UInt8.toNat_inj.1 (by omega))
set_option maxHeartbeats 4000000 in
theorem refReadVersion_any (s : ByteArray) (hs : s.size ≤ 140737488355328) (w : World) : Calls Tryz.prog 37 #[.string s] w fun e w' =>
    e = .returned (.tuple #[.string ⟨(readVersionR s.data.toList).1.toArray⟩, .agg #[.int .i64 (readVersionR s.data.toList).2.1, .int .i64 (readVersionR s.data.toList).2.2.1], .int .i64 (readVersionR s.data.toList).2.2.2]) ∧ Gr w w' := by
  have HB0 := Lib.hid (heap_alloc_new w (.cells #[.int .i64 0, .int .i64 0] 26))
  obtain ⟨z_0, z_1, zf_0, zf_1, zl⟩ := blk2 HB0.out
  by_cases h0 : s.size < 1
  · have hl : s.data.toList = [] := List.eq_nil_of_length_eq_zero (by rw [show s.data.toList.length = s.size from Array.length_toList]; omega)
    have HU : Hid (readVersionR s.data.toList = ([], 0, 0, 4)) := Lib.hid (by rw [hl]; rfl)
    clear hl
    go_enter Tryz.func37, Tryz.ntmps37
    go_wp2
    have hq := heap_set (heap_set HB0.out 0 (.int .i64 0)) 1 (.int .i64 0)
    obtain ⟨q0, q1, _, _, _⟩ := blk2 (x0 := .int .i64 0) (x1 := .int .i64 0) hq
    exact bodyPost_ret (v := .tuple #[.string ⟨#[]⟩, .agg #[.int .i64 0, .int .i64 0], .int .i64 4]) (by simp [results, Tryz.results37, go_sem, q0, q1]) rfl ⟨by (rw [HU.out]; first | done | (simp; done) | (simp [hke]; done)), (by repeat (first | (with_reducible exact Gr.refl _) | (with_reducible assumption) | (with_reducible refine Gr.alloc ?_ _) | (with_reducible refine Gr.drew ?_) | (with_reducible refine Gr.drewN ?_ _) | (with_reducible refine Gr.trans ?_ (by assumption)) | (with_reducible refine Gr.setCell ?_ (by first | exact Nat.le_refl _ | omega | (simp; done) | (simp; omega)) _)))⟩
  · have hlt : 0 < s.size := by omega
    have hd := first_cons s hlt
    by_cases hc : s[0] = 118
    · have hcb : ((s[0].toNat : Int) != 118) = false := by rw [hc]; rfl
      have hx := ext_drop s 1
      have HU : Hid (readVersionR s.data.toList = if (takeL [] (s.data.toList.drop 1)).2.2 = 0 ∧ (takeDownL (takeL [] (s.data.toList.drop 1)).2.1).2.2.2 = 0 ∧ (takeDownL (takeL [] (s.data.toList.drop 1)).2.1).2.2.1 = [] then ((takeL [] (s.data.toList.drop 1)).1, (takeDownL (takeL [] (s.data.toList.drop 1)).2.1).1, (takeDownL (takeL [] (s.data.toList.drop 1)).2.1).2.1, 0) else ([], 0, 0, 4)) := Lib.hid (by
        conv => lhs; rw [hd, hc]
        simp [readVersionR, whoseR])
      generalize s.data.toList.drop 1 = t at *
      have ht : t.length ≤ 140737488355328 := by
        have := congrArg List.length hd
        rw [List.length_cons, show s.data.toList.length = s.size from Array.length_toList] at this
        omega
      have HT := Lib.hid (fun w => refTakeKey_any ⟨t.toArray⟩ (by rw [ba_len]; exact ht) w)
      rw [show (⟨t.toArray⟩ : ByteArray).data.toList = t by simp] at HT
      generalize takeL [] t = r at HT HU
      obtain ⟨k, rest, ke⟩ := r
      have HD := Lib.hid (fun w => refTakeDown_any ⟨rest.toArray⟩ w)
      rw [show (⟨rest.toArray⟩ : ByteArray).data.toList = rest by simp] at HD
      simp only at HU HT
      have HC := Lib.hid (takeDown_cases rest)
      generalize takeDownL rest = d at HD HU HC
      obtain ⟨a, b, more, de⟩ := d
      simp only at HU HD HC
      clear hd hc
      by_cases hke : ke = 0
      · subst hke
        rcases HC.out with he | he | he
        · subst he
          cases more with
          | nil =>
            go_enter Tryz.func37, Tryz.ntmps37
            go_wp2_with fail
            refine (HT.out _).mono ?_
            rintro e w1 ⟨rfl, hg1⟩
            replace HB0 := Lib.hid (hg1.blk HB0.out)
            clear z_0 z_1 zf_0 zf_1
            obtain ⟨z_0, z_1, zf_0, zf_1, zl⟩ := blk2 HB0.out
            go_wp2_with fail
            refine (HD.out _).mono ?_
            rintro e w2 ⟨rfl, hg2⟩
            replace HB0 := Lib.hid (((hg2.alloc (.cells #[.int .i64 a, .int .i64 b] 26))).blk HB0.out)
            have HN := Lib.hid (heap_alloc_new w2 (.cells #[.int .i64 a, .int .i64 b] 26))
            clear z_0 z_1 zf_0 zf_1
            obtain ⟨z_0, z_1, zf_0, zf_1, zl⟩ := blk2 HB0.out
            obtain ⟨n_0, n_1, nf_0, nf_1, nl⟩ := blk2 HN.out
            go_wp2
            go_region
            all_goals go_wp2
            all_goals
              have hq := heap_drew (heap_set (heap_set HB0.out 0 (.int .i64 a)) 1 (.int .i64 b))
              obtain ⟨q0, q1, _, _, _⟩ := blk2 (x0 := .int .i64 a) (x1 := .int .i64 b) hq
              exact bodyPost_ret (v := .tuple #[.string ⟨k.toArray⟩, .agg #[.int .i64 a, .int .i64 b], .int .i64 0]) (by simp [results, Tryz.results37, go_sem, q0, q1]) rfl ⟨by (rw [HU.out]; first | done | (simp; done)), (by repeat (first | (with_reducible exact Gr.refl _) | (with_reducible assumption) | (with_reducible refine Gr.alloc ?_ _) | (with_reducible refine Gr.drew ?_) | (with_reducible refine Gr.drewN ?_ _) | (with_reducible refine Gr.trans ?_ (by assumption)) | (with_reducible refine Gr.setCell ?_ (by first | exact Nat.le_refl _ | omega | (simp; done) | (simp; omega)) _)))⟩
          | cons x y =>
            have hne : ((⟨(x :: y).toArray⟩ : ByteArray) != ⟨#[]⟩) = true := (ba_bne (x :: y) []).trans (by simp)
            have hem : (⟨(x :: y).toArray⟩ : ByteArray).toList.isEmpty = false := by rw [isEmpty_size, ba_len]; simp
            go_enter Tryz.func37, Tryz.ntmps37
            go_wp2_with fail
            refine (HT.out _).mono ?_
            rintro e w1 ⟨rfl, hg1⟩
            replace HB0 := Lib.hid (hg1.blk HB0.out)
            clear z_0 z_1 zf_0 zf_1
            obtain ⟨z_0, z_1, zf_0, zf_1, zl⟩ := blk2 HB0.out
            go_wp2_with fail
            refine (HD.out _).mono ?_
            rintro e w2 ⟨rfl, hg2⟩
            replace HB0 := Lib.hid (((hg2.alloc (.cells #[.int .i64 a, .int .i64 b] 26))).blk HB0.out)
            have HN := Lib.hid (heap_alloc_new w2 (.cells #[.int .i64 a, .int .i64 b] 26))
            clear z_0 z_1 zf_0 zf_1
            obtain ⟨z_0, z_1, zf_0, zf_1, zl⟩ := blk2 HB0.out
            obtain ⟨n_0, n_1, nf_0, nf_1, nl⟩ := blk2 HN.out
            go_wp2
            have hq := heap_set (heap_set HB0.out 0 (.int .i64 0)) 1 (.int .i64 0)
            obtain ⟨q0, q1, _, _, _⟩ := blk2 (x0 := .int .i64 0) (x1 := .int .i64 0) hq
            exact bodyPost_ret (v := .tuple #[.string ⟨#[]⟩, .agg #[.int .i64 0, .int .i64 0], .int .i64 4]) (by simp [results, Tryz.results37, go_sem, q0, q1]) rfl ⟨by (rw [HU.out]; first | done | (simp; done) | (simp [hke]; done)), (by repeat (first | (with_reducible exact Gr.refl _) | (with_reducible assumption) | (with_reducible refine Gr.alloc ?_ _) | (with_reducible refine Gr.drew ?_) | (with_reducible refine Gr.drewN ?_ _) | (with_reducible refine Gr.trans ?_ (by assumption)) | (with_reducible refine Gr.setCell ?_ (by first | exact Nat.le_refl _ | omega | (simp; done) | (simp; omega)) _)))⟩
        · subst he
          go_enter Tryz.func37, Tryz.ntmps37
          go_wp2_with fail
          refine (HT.out _).mono ?_
          rintro e w1 ⟨rfl, hg1⟩
          replace HB0 := Lib.hid (hg1.blk HB0.out)
          clear z_0 z_1 zf_0 zf_1
          obtain ⟨z_0, z_1, zf_0, zf_1, zl⟩ := blk2 HB0.out
          go_wp2_with fail
          refine (HD.out _).mono ?_
          rintro e w2 ⟨rfl, hg2⟩
          replace HB0 := Lib.hid (((hg2.alloc (.cells #[.int .i64 a, .int .i64 b] 26))).blk HB0.out)
          have HN := Lib.hid (heap_alloc_new w2 (.cells #[.int .i64 a, .int .i64 b] 26))
          clear z_0 z_1 zf_0 zf_1
          obtain ⟨z_0, z_1, zf_0, zf_1, zl⟩ := blk2 HB0.out
          obtain ⟨n_0, n_1, nf_0, nf_1, nl⟩ := blk2 HN.out
          go_wp2
          have hq := heap_set (heap_set HB0.out 0 (.int .i64 0)) 1 (.int .i64 0)
          obtain ⟨q0, q1, _, _, _⟩ := blk2 (x0 := .int .i64 0) (x1 := .int .i64 0) hq
          exact bodyPost_ret (v := .tuple #[.string ⟨#[]⟩, .agg #[.int .i64 0, .int .i64 0], .int .i64 4]) (by simp [results, Tryz.results37, go_sem, q0, q1]) rfl ⟨by (rw [HU.out]; first | done | (simp; done) | (simp [hke]; done)), (by repeat (first | (with_reducible exact Gr.refl _) | (with_reducible assumption) | (with_reducible refine Gr.alloc ?_ _) | (with_reducible refine Gr.drew ?_) | (with_reducible refine Gr.drewN ?_ _) | (with_reducible refine Gr.trans ?_ (by assumption)) | (with_reducible refine Gr.setCell ?_ (by first | exact Nat.le_refl _ | omega | (simp; done) | (simp; omega)) _)))⟩
        · subst he
          go_enter Tryz.func37, Tryz.ntmps37
          go_wp2_with fail
          refine (HT.out _).mono ?_
          rintro e w1 ⟨rfl, hg1⟩
          replace HB0 := Lib.hid (hg1.blk HB0.out)
          clear z_0 z_1 zf_0 zf_1
          obtain ⟨z_0, z_1, zf_0, zf_1, zl⟩ := blk2 HB0.out
          go_wp2_with fail
          refine (HD.out _).mono ?_
          rintro e w2 ⟨rfl, hg2⟩
          replace HB0 := Lib.hid (((hg2.alloc (.cells #[.int .i64 a, .int .i64 b] 26))).blk HB0.out)
          have HN := Lib.hid (heap_alloc_new w2 (.cells #[.int .i64 a, .int .i64 b] 26))
          clear z_0 z_1 zf_0 zf_1
          obtain ⟨z_0, z_1, zf_0, zf_1, zl⟩ := blk2 HB0.out
          obtain ⟨n_0, n_1, nf_0, nf_1, nl⟩ := blk2 HN.out
          go_wp2
          have hq := heap_set (heap_set HB0.out 0 (.int .i64 0)) 1 (.int .i64 0)
          obtain ⟨q0, q1, _, _, _⟩ := blk2 (x0 := .int .i64 0) (x1 := .int .i64 0) hq
          exact bodyPost_ret (v := .tuple #[.string ⟨#[]⟩, .agg #[.int .i64 0, .int .i64 0], .int .i64 4]) (by simp [results, Tryz.results37, go_sem, q0, q1]) rfl ⟨by (rw [HU.out]; first | done | (simp; done) | (simp [hke]; done)), (by repeat (first | (with_reducible exact Gr.refl _) | (with_reducible assumption) | (with_reducible refine Gr.alloc ?_ _) | (with_reducible refine Gr.drew ?_) | (with_reducible refine Gr.drewN ?_ _) | (with_reducible refine Gr.trans ?_ (by assumption)) | (with_reducible refine Gr.setCell ?_ (by first | exact Nat.le_refl _ | omega | (simp; done) | (simp; omega)) _)))⟩
      · skip
        go_enter Tryz.func37, Tryz.ntmps37
        go_wp2_with fail
        refine (HT.out _).mono ?_
        rintro e w1 ⟨rfl, hg1⟩
        replace HB0 := Lib.hid (hg1.blk HB0.out)
        clear z_0 z_1 zf_0 zf_1
        obtain ⟨z_0, z_1, zf_0, zf_1, zl⟩ := blk2 HB0.out
        go_wp2
        have hq := heap_set (heap_set HB0.out 0 (.int .i64 0)) 1 (.int .i64 0)
        obtain ⟨q0, q1, _, _, _⟩ := blk2 (x0 := .int .i64 0) (x1 := .int .i64 0) hq
        exact bodyPost_ret (v := .tuple #[.string ⟨#[]⟩, .agg #[.int .i64 0, .int .i64 0], .int .i64 4]) (by simp [results, Tryz.results37, go_sem, q0, q1]) rfl ⟨by (rw [HU.out]; first | done | (simp; done) | (simp [hke]; done)), (by repeat (first | (with_reducible exact Gr.refl _) | (with_reducible assumption) | (with_reducible refine Gr.alloc ?_ _) | (with_reducible refine Gr.drew ?_) | (with_reducible refine Gr.drewN ?_ _) | (with_reducible refine Gr.trans ?_ (by assumption)) | (with_reducible refine Gr.setCell ?_ (by first | exact Nat.le_refl _ | omega | (simp; done) | (simp; omega)) _)))⟩
    · have hcb : ((s[0].toNat : Int) != 118) = true := u8_ne118 118 hc
      have HU : Hid (readVersionR s.data.toList = ([], 0, 0, 4)) := Lib.hid (by
        rw [hd]
        simp [readVersionR, whoseR, hc])
      clear hd
      go_enter Tryz.func37, Tryz.ntmps37
      go_wp2
      have hq := heap_set (heap_set HB0.out 0 (.int .i64 0)) 1 (.int .i64 0)
      obtain ⟨q0, q1, _, _, _⟩ := blk2 (x0 := .int .i64 0) (x1 := .int .i64 0) hq
      exact bodyPost_ret (v := .tuple #[.string ⟨#[]⟩, .agg #[.int .i64 0, .int .i64 0], .int .i64 4]) (by simp [results, Tryz.results37, go_sem, q0, q1]) rfl ⟨by (rw [HU.out]; first | done | (simp; done) | (simp [hke]; done)), (by repeat (first | (with_reducible exact Gr.refl _) | (with_reducible assumption) | (with_reducible refine Gr.alloc ?_ _) | (with_reducible refine Gr.drew ?_) | (with_reducible refine Gr.drewN ?_ _) | (with_reducible refine Gr.trans ?_ (by assumption)) | (with_reducible refine Gr.setCell ?_ (by first | exact Nat.le_refl _ | omega | (simp; done) | (simp; omega)) _)))⟩
/-! a key's intent -/
def ittA (it : Itt) (vl : Value) : Array Value := #[.int .i64 it.id, .int .i64 it.epoch, .int .i64 it.prio, .string it.anchor, .int .i64 it.sw, .int .i64 it.sl, .int .i64 it.bw, .int .i64 it.bl, vl]
theorem itt_one (it : Itt) (q : Option Addr) (n c : Nat) : (ittA it (.slice q n c)).all (·.oneCell') = true := by
  unfold ittA
  simp [Value.oneCell']
theorem noChg_itt (it : Itt) (vl : Value) : noChg (ittA it vl) := by
  intro i z s q ⟨h1, h2, h3⟩
  unfold ittA at h1 h2 h3
  match i with
  | 0 | 1 | 2 | 3 | 4 | 5 | 6 | 7 | 8 => simp at h1 h2 h3
  | n + 9 => simp at h1
theorem intentKey_ok {key : ByteArray} (h : keyOk key = true) : intentKeyR key.data.toList = (105 :: keyL key.data.toList, 0) := by
  unfold intentKeyR
  rw [if_pos (key_len h)]
set_option maxHeartbeats 8000000 in
theorem refIntent12 {tb N : Nat} {R : List Rw} {w : World} (h : DocAt tb N R w) (hR : R.length ≤ 1000000) (hsz : ∀ x ∈ R, SzP x) {key : ByteArray} (hk : keyOk key = true) :
    Calls Tryz.prog 70 #[.pointer (some ⟨tb, 0, none⟩), .string key] w fun e w' => ∃ it vl b, e = .returned (.tuple #[.agg (ittA it vl), .bool b])
      ∧ RdC w' vl it.l ∧ intentR R key = optI b it ∧ Gr w w' := by
  have HI9 : Hid ((Tryz.prog.info? 40).map (·.size) = some 9) := Lib.hid (by kernel_rfl)
  have HK := Lib.hid (refIntentKey_any key (w.alloc (.cells (ittA itt0 (.slice none 0 0)) 40)))
  have HT := Lib.hid h
  have HI : Hid (intentR R key = (getR ⟨(intentKeyR key.data.toList).1.toArray⟩ R).bind (fun s => takeIttR s.data.toList)) := Lib.hid rfl
  rw [intentKey_ok hk] at HK HI
  have HSz := Lib.hid hsz
  clear h hk hsz
  simp only at HK HI
  have HG0 := Lib.hid (get10_any (key := ⟨(105 :: keyL key.data.toList).toArray⟩) (HT.out) (by omega))
  generalize (⟨(105 :: keyL key.data.toList).toArray⟩ : ByteArray) = K at *
  obtain ⟨W1, hW1⟩ : ∃ W1, W1 = w.alloc (.cells (ittA itt0 (.slice none 0 0)) 40) := ⟨_, rfl⟩
  have HX1 := Lib.hid (show Gr w W1 by rw [hW1]; exact (Gr.refl w).alloc _)
  have H0 := Lib.hid (show W1.heap[w.heap.size]? = some (.cells (ittA itt0 (.slice none 0 0)) 40) by rw [hW1]; exact heap_alloc_new w _)
  rw [← hW1] at HK
  have HW1 := Lib.hid hW1
  clear hW1
  go_enter Tryz.func70, Tryz.ntmps70
  go_wp2_with fail
  rw [show (w.alloc (Obj.cells #[Value.int IntKind.i64 0, Value.int IntKind.i64 0, Value.int IntKind.i64 0, Value.string { data := #[] }, Value.int IntKind.i64 0, Value.int IntKind.i64 0, Value.int IntKind.i64 0, Value.int IntKind.i64 0, Value.slice none 0 0] 40)) = W1 from HW1.out.symm]
  refine HK.out.mono ?_
  rintro e w1 ⟨rfl, hg1⟩
  have HX := Lib.hid (HX1.out.trans hg1)
  replace H0 := Lib.hid (hg1.blk H0.out)
  have HGt := Lib.hid (get10_any (key := K) (HT.out.gr HX.out) (by omega))
  clear hg1
  cases hv : getR K R with
  | none =>
    rw [hv] at HGt HI
    have HO : Hid (intentR R key = optI false itt0) := Lib.hid HI.out
    clear hv
    go_wp2_with fail
    refine HGt.out.mono ?_
    rintro e w2 ⟨rfl, rfl⟩
    unfold outS
    go_wp2_with (refine wpList_store_row (by rfl) _ _ _ (by rfl) _ (ittA itt0 (.slice none 0 0)) (by rfl) (by rfl) _ _ H0.out HI9.out (by rfl) (itt_one _ _ _ _) ?_)
    refine bodyPost_ret (v := .tuple #[.agg (ittA itt0 (.slice none 0 0)), .bool false]) ?_ rfl ⟨itt0, _, _, rfl, .inl ⟨rfl, none, 0, rfl, by decide, fun _ => rfl⟩, HO.out, ⟨below_setRow HX.out.b (Nat.le_refl _) _⟩⟩
    exact results_row_tmp rfl _ _ w.heap.size 40 (ittA itt0 (.slice none 0 0)) (0, 0) _ rfl (setRow_heap _ _ _ _ _ _ H0.out) Tryz.underlying40 rfl HI9.out rfl
  | some s =>
    obtain ⟨y, hy, hys⟩ := getR_mem hv
    have hss : s.size ≤ 4398046511000 := by rw [← hys]; exact (HSz.out y hy).2
    rw [hv] at HGt HI
    replace HI : Hid (intentR R key = takeIttR s.data.toList) := Lib.hid HI.out
    have HTk := Lib.hid (fun w => refTakeIntent_any s hss w)
    have HO1 := Lib.hid (ittOut_one (takeIttR s.data.toList))
    generalize ittOut (takeIttR s.data.toList) = io at *
    obtain ⟨it, ie⟩ := io
    simp only at HTk HO1
    clear hv hy hys
    go_wp2_with fail
    refine HGt.out.mono ?_
    rintro e w2 ⟨rfl, rfl⟩
    unfold outS
    go_wp2_with fail
    refine (HTk.out _).mono ?_
    rintro e w3 ⟨vl, rfl, hrd, hg3⟩
    obtain ⟨vq, vz, vc, rfl⟩ := rdc_slice hrd
    have hX4 : Gr w3 (w3.alloc (.cells (ittA it (.slice vq vz vc)) 40)) := (Gr.refl _).alloc _
    have H4 := Lib.hid (hX4.blk (hg3.blk H0.out))
    have HN := Lib.hid (heap_alloc_new w3 (.cells (ittA it (.slice vq vz vc)) 40))
    have HXf := Lib.hid ((HX.out.trans hg3).trans hX4)
    have HR := Lib.hid (chg_kept (w' := (w3.alloc (.cells (ittA it (.slice vq vz vc)) 40)).setRow w.heap.size (ittA it (.slice vq vz vc))) (RdC.gr hrd hX4) (Nat.le_of_eq (size_setRow _ _ _).symm) (fun k o hk ho => by rw [setRow_other _ _ _ _ hk]; exact ho) H4.out (noChg_itt _ _))
    clear hX4 hg3 hrd H0
    by_cases hz : ie = 0
    · subst hz
      have HO : Hid (intentR R key = optI true it) := Lib.hid (by rw [HI.out]; exact HO1.out)
      go_wp2_with (first
        | (refine wpList_load_row (by rfl) _ _ (by rfl) _ (by rfl) _ _ _ _ HN.out Tryz.underlying40 rfl HI9.out ?_)
        | (refine wpList_store_row (by rfl) _ _ _ (by rfl) _ (ittA it (.slice vq vz vc)) (by rfl) (by rfl) _ _ H4.out HI9.out (by rfl) (itt_one _ _ _ _) ?_))
      refine bodyPost_ret (v := .tuple #[.agg (ittA it (.slice vq vz vc)), .bool true]) ?_ rfl ⟨it, _, _, rfl, HR.out, HO.out, ⟨below_setRow HXf.out.b (Nat.le_refl _) _⟩⟩
      exact results_row_tmp rfl _ _ w.heap.size 40 (ittA it (.slice vq vz vc)) (0, 0) _ rfl (setRow_heap _ _ _ _ _ _ H4.out) Tryz.underlying40 rfl HI9.out rfl
    · have hzf : (ie == 0) = false := by simpa using hz
      have HO : Hid (intentR R key = optI false it) := Lib.hid (by rw [HI.out]; rw [hzf] at HO1; exact HO1.out)
      go_wp2_with (first
        | (refine wpList_load_row (by rfl) _ _ (by rfl) _ (by rfl) _ _ _ _ HN.out Tryz.underlying40 rfl HI9.out ?_)
        | (refine wpList_store_row (by rfl) _ _ _ (by rfl) _ (ittA it (.slice vq vz vc)) (by rfl) (by rfl) _ _ H4.out HI9.out (by rfl) (itt_one _ _ _ _) ?_))
      refine bodyPost_ret (v := .tuple #[.agg (ittA it (.slice vq vz vc)), .bool false]) ?_ rfl ⟨it, _, _, rfl, HR.out, HO.out, ⟨below_setRow HXf.out.b (Nat.le_refl _) _⟩⟩
      exact results_row_tmp rfl _ _ w.heap.size 40 (ittA it (.slice vq vz vc)) (0, 0) _ rfl (setRow_heap _ _ _ _ _ _ H4.out) Tryz.underlying40 rfl HI9.out rfl
/-! a key's versions -/
def verC (x : Rw) : List Value := [.int .i64 (sa x), .int .i64 (sb x), .string ⟨(takeVerR x.2.data.toList).1.toArray⟩, .bool (isV x)]
theorem elVer : ElTy 46 49 4 (.agg #[.int .i64 0, .int .i64 0, .string ⟨#[]⟩, .bool false]) 40 := ⟨Tryz.underlying46, by kernel_rfl, rfl, by decide⟩
theorem encVer : Enc verC 4 := ⟨fun _ => rfl, fun a u hu => by simp [verC] at hu; rcases hu with rfl | rfl | rfl | rfl <;> rfl⟩
theorem vers_len (R : List Rw) (key : ByteArray) : (versR R key).length ≤ R.length := List.length_filter_le _ _
theorem vers_skip {R : List Rw} {key : ByteArray} {k : Nat} (hk : k < R.length) (h : vofK key R[k] = false) : versR (R.take (k + 1)) key = versR (R.take k) key := by
  unfold versR
  rw [List.take_succ_eq_append_getElem hk, List.filter_append]
  simp [h]
theorem vers_take {R : List Rw} {key : ByteArray} {k : Nat} (hk : k < R.length) (h : vofK key R[k] = true) : versR (R.take (k + 1)) key = versR (R.take k) key ++ [R[k]] := by
  unfold versR
  rw [List.take_succ_eq_append_getElem hk, List.filter_append]
  simp [h]
set_option maxHeartbeats 8000000 in
theorem refVersions_any {tb N : Nat} {R : List Rw} {w : World} (h : DocAt tb N R w) (hR : R.length ≤ 1000000) (hsz : ∀ x ∈ R, SzP x) (key : ByteArray) :
    Calls Tryz.prog 12 #[.pointer (some ⟨tb, 0, none⟩), .string key] w fun e w' => ∃ v, e = .returned v ∧ OwnG 49 4 verC w' w.heap.size v (versR R key) ∧ Gr w w' := by
  obtain ⟨v, hv, ho⟩ := h.ex
  have hR0 := ho.rd encRow (by decide)
  obtain ⟨q, c, rfl⟩ := RdRw.form hR0
  have HR := Lib.hid hR0
  have HSz := Lib.hid hsz
  obtain ⟨k_0, g_0, l_0⟩ := blk1 hv
  have hlenv := fun W ty => len_rows (w := W) (q := q) (n := R.length) (c := c) (ty := ty)
  clear hR0 hv ho hsz
  go_enter Tryz.func12, Tryz.ntmps12
  go_wp2
  go_loopw [5, 7] (fun vo iv wr => ∃ k : Nat, iv = .int .i64 k ∧ k ≤ R.length ∧ Hid (OwnG 49 4 verC wr w.heap.size vo (versR (R.take k) key)) ∧ Hid (Gr w wr)) (fun _ iv _ => R.length - (intOf iv).toNat)
  case atStart => exact ⟨0, rfl, Nat.zero_le _, Lib.hid (OwnG.nil _ _), Lib.hid (Gr.refl _)⟩
  case round =>
    obtain ⟨k, rfl, hk, HO, HG⟩ := hrel
    obtain ⟨vq, vc, vz, rfl⟩ := slice_any HO.out
    by_cases hkl : k < R.length
    · obtain ⟨bk, of, cp, e1, q1, q2, c0, c1⟩ := RdRw.at (RdRw.gr HR.out HG.out) hkl
      cases e1
      unfold maxLen at q2
      have hs := HSz.out _ (List.getElem_mem hkl)
      have HRV := Lib.hid (fun w => refReadVersion_any R[k].1 (by have := hs.1; omega) w)
      have HTV := Lib.hid (fun w => refTakeVersion_any R[k].2 (by have := hs.2; omega) w)
      have HP : Hid (vofK key R[k] = ((((readVersionR R[k].1.data.toList).2.2.2 == 0) && ((takeVerR R[k].2.data.toList).2.2 == 0)) && ((readVersionR R[k].1.data.toList).1 == key.data.toList))) := Lib.hid rfl
      have HCc : Hid (verC R[k] = [.int .i64 (readVersionR R[k].1.data.toList).2.1, .int .i64 (readVersionR R[k].1.data.toList).2.2.1, .string ⟨(takeVerR R[k].2.data.toList).1.toArray⟩, .bool (takeVerR R[k].2.data.toList).2.1]) := Lib.hid rfl
      generalize readVersionR R[k].1.data.toList = r at *
      generalize takeVerR R[k].2.data.toList = u at *
      obtain ⟨rk, ra, rb, re⟩ := r
      obtain ⟨uv, ub, ue⟩ := u
      simp only at HRV HTV HP HCc
      clear hs
      go_wp2_with fail
      refine (HRV.out _).mono ?_
      rintro e w1 ⟨rfl, hg1⟩
      have HG1 := Lib.hid (HG.out.trans hg1)
      have HO1 := Lib.hid (HO.out.gr hg1)
      obtain ⟨bk', of', cp', e1, _, _, d0, d1⟩ := RdRw.at (RdRw.gr HR.out HG1.out) hkl
      cases e1
      have d1a := ((Gr.refl w1).alloc (.cells #[.int .i64 ra, .int .i64 rb] 26)).cell' d1
      clear c0 c1 hg1 d0
      have HN := Lib.hid (heap_alloc_new w1 (.cells #[.int .i64 ra, .int .i64 rb] 26))
      obtain ⟨n_0, n_1, nf_0, nf_1, nl⟩ := blk2 HN.out
      have HG2 := Lib.hid (HG1.out.alloc (.cells #[.int .i64 ra, .int .i64 rb] 26))
      have HO2 := Lib.hid (HO1.out.gr ((Gr.refl w1).alloc (.cells #[.int .i64 ra, .int .i64 rb] 26)))
      by_cases hre : re = 0
      · subst hre
        cases hke : rk == key.toList with
        | false =>
          have HV : Hid (vofK key R[k] = false) := Lib.hid (by
            rw [HP.out]
            rw [ByteArray.toList_eq] at hke
            rw [hke, Bool.and_false])
          go_wp2
          go_roundw
          case rel => exact ⟨k + 1, by go_num, by omega, Lib.hid (by rw [vers_skip hkl HV.out]; exact HO2.out), HG2⟩
          case measure => simp [intOf]; omega
        | true =>
          have hrk : (rk == key.data.toList) = true := by
            rw [ByteArray.toList_eq] at hke
            exact hke
          go_wp2_with fail
          refine (HTV.out _).mono ?_
          rintro e w3 ⟨rfl, hg3⟩
          have HG3 := Lib.hid (HG2.out.trans hg3)
          have HO3 := Lib.hid (HO2.out.gr hg3)
          replace HN := Lib.hid (hg3.blk HN.out)
          clear n_0 n_1 nf_0 nf_1 d1 d1a hg3
          obtain ⟨n_0, n_1, nf_0, nf_1, nl⟩ := blk2 HN.out
          by_cases hue : ue = 0
          · subst hue
            have HV : Hid (vofK key R[k] = true) := Lib.hid (by rw [HP.out, hrk]; rfl)
            have HLn := Lib.hid (Nat.le_trans (vers_len (R.take k) key) (by rw [List.length_take]; omega : _ ≤ R.length))
            go_wp2_with (at_builtin; go_loud (refine app_gen elVer encVer (N := w.heap.size) (by have := HG3.out.size; simp; omega) (by rfl) _ _ (by rfl) (versR (R.take k) key) [R[k]] (by rfl) (by rfl) (HO3.out.gr ((Gr.refl _).alloc _)) (RdE.one encVer w3 49 R[k] (by simp) (by rw [HCc.out])) (by have := HLn.out; simp; omega) (by have := HLn.out; simp; omega) ?_; intro v5 w5 hown5 hgr5; have HO5 := Lib.hid hown5; have HG5 := Lib.hid (OwnG.grew (HG3.out.alloc _) (HO3.out.gr ((Gr.refl _).alloc _)) hgr5)))
            go_roundw
            case rel => exact ⟨k + 1, by go_num, by omega, Lib.hid (by rw [vers_take hkl HV.out]; exact HO5.out), HG5⟩
            case measure => simp [intOf]; omega
          · have hzf : (ue == 0) = false := by simpa using hue
            have HV : Hid (vofK key R[k] = false) := Lib.hid (by rw [HP.out, hzf]; simp)
            go_wp2
            go_roundw
            case rel => exact ⟨k + 1, by go_num, by omega, Lib.hid (by rw [vers_skip hkl HV.out]; exact HO3.out), HG3⟩
            case measure => simp [intOf]; omega
      · have HV : Hid (vofK key R[k] = false) := Lib.hid (by rw [HP.out, show (re == 0) = false by simpa using hre]; rfl)
        go_wp2
        go_roundw
        case rel => exact ⟨k + 1, by go_num, by omega, Lib.hid (by rw [vers_skip hkl HV.out]; exact HO2.out), HG2⟩
        case measure => simp [intOf]; omega
    · obtain rfl : k = R.length := by omega
      go_wp2
      go_ret
      exact ⟨_, rfl, by have := HO.out; rwa [List.take_length] at this, HG.out⟩
end Go.Proofs.YthgecojbggoniaaGreatDoor
