/- SweepAgain: the walk. -/
import Derived.Test.YtocijpeminghoaaGreatDoorSweT
import Derived.Test.YtocijpeminghoaaGreatDoorTabE
namespace Go.Proofs.YtocijpeminghoaaGreatDoor
open Go.RowKit Classical
set_option maxRecDepth 100000
set_option linter.unusedVariables false
set_option linter.unusedSimpArgs false
set_option linter.unnecessarySimpa false

theorem rmv_congr {D D' R : List Rw} (h : ∀ y, y ∈ D ↔ y ∈ D') : rmv D R = rmv D' R := by
  unfold rmv
  refine List.filter_congr (fun y _ => ?_)
  rw [decide_eq_decide]
  exact not_congr (h y)
theorem again_step {R : List Rw} (hR : RisingR R) {lo hi : ByteArray} {a b : Int} {O : List Rw} (hO : (betweenR vK wK R).filter (goB lo hi a b (betweenR vK wK R)) = O) {k : Nat} (hk : k < O.length) :
    afterR [opGo O[k]] (rmv (O.take k) R) = rmv (O.take (k + 1)) R ∧ applyE [opGo O[k]] = 0 := by
  have hV : RisingR (betweenR vK wK R) := by rw [between_filter hR]; exact rising_filter hR _
  have hsp : O = O.take k ++ O[k] :: O.drop (k + 1) := by rw [← List.drop_eq_getElem_cons hk, List.take_append_drop]
  have hOr : RisingR O := by rw [← hO]; exact rising_filter hV _
  have hmem : O[k] ∈ (betweenR vK wK R).filter (goB lo hi a b (betweenR vK wK R)) := by rw [hO]; exact List.getElem_mem hk
  obtain ⟨m1, m2⟩ := List.mem_filter.1 hmem
  have hxR : O[k] ∈ R := by rw [between_filter hR] at m1; exact (List.mem_filter.1 m1).1
  have hxD : O[k] ∉ O.take k := fun h => by
    have h2 : RisingR (O.take k ++ O[k] :: O.drop (k + 1)) := by rw [← hsp]; exact hOr
    have := (rising_split h2).1 _ h
    rw [klt_irrefl] at this; cases this
  have hne : O[k].1.toList ≠ [] := by
    unfold goB at m2
    rw [Bool.and_eq_true] at m2
    have h1 := nsl_rdk m2.1
    unfold rdk at h1
    have h2 := (readV_inv (by simpa using h1)).1
    rw [ByteArray.toList_eq, h2]
    simp
  have hA : applyE [opGo O[k]] = 0 := by
    unfold applyE
    rw [if_neg (by simp), if_neg]
    simp [badO, opGo, hne]
  refine ⟨?_, hA⟩
  unfold afterR
  rw [if_pos hA]
  simp only [applyR, List.foldl_cons, List.foldl_nil]
  unfold Go.Proofs.YtocijpeminghoaaGreatDoor.one
  rw [if_pos (by rfl)]
  refine (rmv_drop hR (List.mem_filter.2 ⟨hxR, by simpa using hxD⟩)).trans (rmv_congr (fun y => ?_))
  rw [List.take_succ_eq_append_getElem hk]
  simp only [List.mem_cons, List.mem_append, List.mem_singleton, List.not_mem_nil, or_false]
  exact or_comm
theorem again_len {R : List Rw} (hR : RisingR R) {lo hi : ByteArray} {a b : Int} {O : List Rw} (hO : (betweenR vK wK R).filter (goB lo hi a b (betweenR vK wK R)) = O) : (rmv O R).length + O.length = R.length := by
  have h : O = R.filter (fun y => inB vK wK y && goB lo hi a b (betweenR vK wK R) y) := by
    rw [← hO]
    conv => lhs; rw [between_filter hR]
    rw [List.filter_filter]
    refine List.filter_congr (fun y _ => ?_)
    rw [Bool.and_comm, between_filter hR]
  have := rmv_len (R := R) (fun y => inB vK wK y && goB lo hi a b (betweenR vK wK R) y)
  rwa [← h] at this
theorem again_out {R : List Rw} (hR : RisingR R) {lo hi : ByteArray} {a b : Int} {O : List Rw} (hO : (betweenR vK wK R).filter (goB lo hi a b (betweenR vK wK R)) = O) : (swFold lo hi a b (betweenR vK wK (rmv O R))).out = [] := by
  have hV : RisingR (betweenR vK wK R) := by rw [between_filter hR]; exact rising_filter hR _
  rw [rmv_between hR, sw_out (rmv_rising hV), ← hO, again_none]
  rfl
/-- what is gone might go -/
theorem again_may {R : List Rw} (hR : RisingR R) {lo hi : ByteArray} {a b : Int} {O : List Rw} (hO : (betweenR vK wK R).filter (goB lo hi a b (betweenR vK wK R)) = O) {x : Rw} (hx : x ∈ R) : nsl lo hi a b x = false → getR x.1 (rmv O R) = some x.2 := by
  intro hn
  refine get_mem (rmv_rising hR) (List.mem_filter.2 ⟨hx, ?_⟩)
  refine decide_eq_true (fun h => ?_)
  rw [← hO] at h
  have := (List.mem_filter.1 h).2
  unfold goB at this
  rw [hn] at this
  cases this
set_option maxHeartbeats 8000000 in
theorem sweepAgain_walk {w : World} {v : Value} {l : List Cl} (hw : Sh w) (hl : RdC w v l) (hlen : l.length ≤ 140737488355328) (hk : ∀ c ∈ l, (-9223372036854775808 ≤ c.kind ∧ c.kind ≤ 9223372036854775807) ∧ c.key.size ≤ 140737488351232 ∧ c.val.size ≤ 140737488351232) (lo hi : ByteArray) (a b : Int) :
    Calls Tryz.prog 4 #[v, .agg #[.string lo, .string hi], .agg #[.int .i64 a, .int .i64 b]] w fun e w' => e = .returned (.bool true) ∧ Gr w w' := by
  have HSh := Lib.hid hw
  have HL := Lib.hid hl
  have HK := Lib.hid hk
  clear hw hl hk
  go_enter Tryz.func4, Tryz.ntmps4
  go_wp2_with fail
  refine (works15 (HSh.out.gr (((Gr.refl w).alloc _).alloc _))).mono ?_
  rintro e w1 ⟨rfl, hg1⟩
  have HG := Lib.hid ((((Gr.refl w).alloc _).alloc _).trans hg1)
  have HB := Lib.hid (hg1.blk (heap_alloc1 (heap_alloc_new w (.cells #[.string lo, .string hi] 36))))
  have HC := Lib.hid (hg1.blk (heap_newn (w := w.alloc (.cells #[.string lo, .string hi] 36)) (n := w.heap.size + 1) (o := .cells #[.int .i64 a, .int .i64 b] 24) (by simp)))
  clear hg1
  go_wp2_with fail
  refine (laid_any (HL.out.gr HG.out) hlen (fun c hc => ⟨(HK.out c hc).1, (HK.out c hc).2.1⟩)).mono ?_
  rintro e w2 ⟨ta, tb, rfl, h2, hg2⟩
  have HT := Lib.hid (h2.a.mono (S' := fun k => w.heap.size ≤ k) (fun k hk => Nat.le_trans HG.out.size hk.1))
  replace HB := Lib.hid (hg2.blk HB.out)
  replace HC := Lib.hid (hg2.blk HC.out)
  replace HG := Lib.hid (HG.out.trans hg2)
  have HRl : Hid ((laidR (l.take 100)).length ≤ 100) := Lib.hid (Nat.le_trans (len_laid _) (by rw [List.length_take]; omega))
  have HSz : Hid (∀ x ∈ laidR (l.take 100), SzR x) := Lib.hid (laid_szs (fun c hc => (HK.out c (List.mem_of_mem_take hc)).2))
  clear h2 hg2 HL HK
  generalize laidR (l.take 100) = R at *
  obtain ⟨j_0, j_1, _, _, _⟩ := blk2 HB.out
  obtain ⟨m_0, m_1, _, _, _⟩ := blk2 HC.out
  have hcase : (∃ x : Int, (x != 0) = true ∧ ∀ w, Calls Tryz.prog 7 #[.pointer (some ⟨ta, 0, none⟩), .agg #[.string lo, .string hi], .agg #[.int .i64 a, .int .i64 b]] w fun e w' => e = .returned (.tuple #[.slice none 0 0, .int .i64 x]) ∧ Gr w w') ∨ (lo.size ≤ 33 ∧ hi.size ≤ 33 ∧ klt lo hi = true ∧ stampOk a b = true) := by
    by_cases h1 : 33 < lo.size ∨ 33 < hi.size
    · exact .inl ⟨5, rfl, fun w => sweep_long ta lo hi a b h1 w⟩
    · have h2 : lo.size ≤ 33 := by omega
      have h3 : hi.size ≤ 33 := by omega
      cases h4 : klt lo hi with
      | false => exact .inl ⟨2, rfl, fun w => sweep_arg ta lo hi a b h2 h3 (.inl h4) w⟩
      | true =>
        cases h5 : stampOk a b with
        | false => exact .inl ⟨2, rfl, fun w => sweep_arg ta lo hi a b h2 h3 (.inr h5) w⟩
        | true => exact .inr ⟨h2, h3, rfl, rfl⟩
  rcases hcase with ⟨x, hx, hS⟩ | ⟨hlo, hhi, hlt, hst⟩
  · have HS := Lib.hid hS
    have hlenn := fun W ty => len_ops (w := W) (q := none) (n := 0) (c := 0) (ty := ty)
    clear hS
    go_wp2_with fail
    refine (HS.out _).mono ?_
    rintro e w3 ⟨rfl, hg3⟩
    have HG3 := Lib.hid (HG.out.trans hg3)
    clear hg3 j_0 j_1 m_0 m_1
    go_wp2
    go_ret
    exact ⟨ret_bool (by simp), HG3.out⟩
  · go_wp2_with fail
    refine (sweep_ok HT.out HSz.out (Nat.le_trans HRl.out (by decide)) lo hi hlo hhi hlt a b hst).mono ?_
    rintro e w3 ⟨vo, rfl, ho, hg3⟩
    have hR : RisingR R := tab_first HT.out
    rw [sw_out (by rw [between_filter hR]; exact rising_filter hR _)] at ho
    obtain ⟨O, hO⟩ : ∃ O, (betweenR vK wK R).filter (goB lo hi a b (betweenR vK wK R)) = O := ⟨_, rfl⟩
    rw [hO] at ho
    have HOl : Hid (O.length ≤ 100) := Lib.hid (by
      rw [← hO]
      refine Nat.le_trans (List.length_filter_le _ _) ?_
      rw [between_filter hR]
      exact Nat.le_trans (List.length_filter_le _ _) HRl.out)
    obtain ⟨q, c, e⟩ := ho.slice
    rw [List.length_map] at e
    subst e
    have HO3 := Lib.hid ho
    have HOe := Lib.hid hO
    have HRi := Lib.hid hR
    have HP : Hid (lo.size ≤ 33 ∧ hi.size ≤ 33 ∧ klt lo hi = true ∧ stampOk a b = true) := Lib.hid ⟨hlo, hhi, hlt, hst⟩
    have HG3 := Lib.hid (HG.out.trans hg3)
    have HT3 := Lib.hid (HT.out.gr hg3)
    have HB3 := Lib.hid (hg3.blk HB.out)
    have HC3 := Lib.hid (hg3.blk HC.out)
    clear ho hO hR hlo hhi hlt hst hg3 HG HT HB HC j_0 j_1 m_0 m_1
    have hlenw := fun W ty => len_ops (w := W) (q := q) (n := O.length) (c := c) (ty := ty)
    go_wp2_with fail
    refine (rows_tab HT3.out HSz.out (Nat.le_trans HRl.out (by decide))).mono ?_
    rintro e w4 ⟨vr, rfl, hrw, hg4⟩
    obtain ⟨q2, c2, rfl⟩ := hrw.slice
    have hlenr := fun W ty => len_rows (w := W) (q := q2) (n := R.length) (c := c2) (ty := ty)
    have HR4 := Lib.hid hrw
    have HG4 := Lib.hid (HG3.out.trans hg4)
    have HT4 := Lib.hid (HT3.out.gr hg4)
    have HB4 := Lib.hid (hg4.blk HB3.out)
    have HC4 := Lib.hid (hg4.blk HC3.out)
    have HO4 := Lib.hid (HO3.out.gr hg4)
    clear hrw hg4 HG3 HT3 HB3 HC3 HO3
    go_wp2
    go_loopw [12] (fun iv wr => ∃ m : Nat, iv = .int .i64 m ∧ m ≤ O.length ∧ Hid (TabAt ta (fun k => w.heap.size ≤ k) (rmv (O.take m) R) wr) ∧ Hid (Gr w wr) ∧ Hid (wr.heap[w.heap.size]? = some (.cells #[.string lo, .string hi] 36)) ∧ Hid (wr.heap[w.heap.size + 1]? = some (.cells #[.int .i64 a, .int .i64 b] 24)) ∧ Hid (OwnG 65 3 oppC wr w2.heap.size (.slice q O.length c) (O.map opGo)) ∧ Hid (OwnG 48 2 rowC wr w3.heap.size (.slice q2 R.length c2) R)) (fun iv _ => O.length - (intOf iv).toNat)
    case atStart => exact ⟨0, rfl, Nat.zero_le _, Lib.hid (by rw [List.take_zero, rmv_nil]; exact HT4.out), HG4, HB4, HC4, HO4, HR4⟩
    case round =>
      obtain ⟨m, rfl, hm, HTr, HGr, HBr, HCr, HOr, HRr⟩ := hrel
      clear HG4 HT4 HB4 HC4 HO4 HR4
      by_cases hmO : m < O.length
      · obtain ⟨st1, st3⟩ := again_step HRi.out HOe.out hmO
        have hmm : m < (O.map opGo).length := by rw [List.length_map]; exact hmO
        have hget : (O.map opGo)[m] = opGo O[m] := List.getElem_map _
        have hRm : (rmv (O.take m) R).length ≤ 1000 := Nat.le_trans (List.length_filter_le _ _) (Nat.le_trans HRl.out (by decide))
        obtain ⟨bo, oo, rfl, hc1, hc2, hA⟩ := apply_sub HTr.out HGr.out.size HOr.out (by rw [List.length_map]) hRm hmm (by rw [hget]; exact st3)
        rw [hget, st1] at hA
        have HA := Lib.hid hA
        clear hA st1 st3 hget hRm hmm
        go_wp2_with fail
        refine HA.out.mono ?_
        rintro e w7 ⟨rfl, ht7, hf7⟩
        have HT7 := Lib.hid ht7
        have HG7 := Lib.hid (FrU.toGr HGr.out hf7 (fun k hk => hk))
        have HB7 := Lib.hid (hf7.cells ⟨by decide, by decide, by decide⟩ HBr.out)
        have HC7 := Lib.hid (hf7.cells ⟨by decide, by decide, by decide⟩ HCr.out)
        have HO7 := Lib.hid (own_fru hf7 HOr.out)
        have HR7 : Hid (OwnG 48 2 rowC w7 w3.heap.size (.slice q2 R.length c2) R) := Lib.hid (HRr.out.kept (fun g c f hh => hf7.cells ⟨by decide, by decide, by decide⟩ hh))
        clear ht7 hf7 HTr HGr HBr HCr HOr HRr HA
        go_wp2
        go_roundw
        case rel => exact ⟨m + 1, by go_num, by omega, HT7, HG7, HB7, HC7, HO7, HR7⟩
        case measure => simp [intOf]; omega
      · obtain rfl : m = O.length := by omega
        rw [List.take_length] at HTr
        obtain ⟨j_0, j_1, _, _, _⟩ := blk2 HBr.out
        obtain ⟨m_0, m_1, _, _, _⟩ := blk2 HCr.out
        have hsz2 : ∀ x ∈ rmv O R, x.1.size < 140737488355328 ∧ x.2.size ≤ 140737488351232 := fun x hx => HSz.out x (List.mem_filter.1 hx).1
        have HS2 := Lib.hid (sweep_ok HTr.out hsz2 (Nat.le_trans (List.length_filter_le _ _) (Nat.le_trans HRl.out (by decide))) lo hi HP.out.1 HP.out.2.1 HP.out.2.2.1 a b HP.out.2.2.2)
        rw [again_out HRi.out HOe.out] at HS2
        clear hsz2
        go_wp2_with fail
        refine HS2.out.mono ?_
        rintro e w8 ⟨v8, rfl, ho8, hg8⟩
        obtain ⟨q8, c8, e8⟩ := ho8.slice
        rw [List.length_nil] at e8
        subst e8
        have hlen8 := fun W ty => len_ops (w := W) (q := q8) (n := 0) (c := c8) (ty := ty)
        have HG8 := Lib.hid (HGr.out.trans hg8)
        have HT8 := Lib.hid (HTr.out.gr hg8)
        have HB8 := Lib.hid (hg8.blk HBr.out)
        have HC8 := Lib.hid (hg8.blk HCr.out)
        have HR8 := Lib.hid (HRr.out.gr hg8)
        clear ho8 hg8 HTr HGr HBr HCr HOr HRr HS2 j_0 j_1 m_0 m_1
        go_wp2
        go_loopw [15] (fun iv wr => ∃ k : Nat, iv = .int .i64 k ∧ k ≤ R.length ∧ Hid (TabAt ta (fun k => w.heap.size ≤ k) (rmv O R) wr) ∧ Hid (Gr w wr) ∧ Hid (wr.heap[w.heap.size]? = some (.cells #[.string lo, .string hi] 36)) ∧ Hid (wr.heap[w.heap.size + 1]? = some (.cells #[.int .i64 a, .int .i64 b] 24)) ∧ Hid (OwnG 48 2 rowC wr w3.heap.size (.slice q2 R.length c2) R)) (fun iv _ => R.length - (intOf iv).toNat)
        case atStart => exact ⟨0, rfl, Nat.zero_le _, HT8, HG8, HB8, HC8, HR8⟩
        case round =>
          obtain ⟨k, rfl, hk, HTr, HGr, HBr, HCr, HRr⟩ := hrel
          clear HT8 HG8 HB8 HC8 HR8
          by_cases hkR : k < R.length
          · obtain ⟨br, orr, cr, e1, q1, q2', r_0, r_1⟩ := RdW.at (HRr.out.rd encRow (by decide)) hkR
            cases e1
            unfold maxLen at q2'
            have hmem : R[k] ∈ R := List.getElem_mem hkR
            have HMay := Lib.hid (again_may HRi.out HOe.out hmem)
            have HNs : Hid (nsl lo hi a b R[k] = !(!((readVersionR R[k].1.data.toList).2.2.2 == 0) || !((takeVerR R[k].2.data.toList).2.2 == 0) || klt ⟨(readVersionR R[k].1.data.toList).1.toArray⟩ lo || !klt ⟨(readVersionR R[k].1.data.toList).1.toArray⟩ hi || lessS a b (readVersionR R[k].1.data.toList).2.1 (readVersionR R[k].1.data.toList).2.2.1)) := Lib.hid rfl
            have HRV := Lib.hid (fun w => readVersion_any R[k].1 (by have := (HSz.out _ hmem).1; omega) w)
            have HTV := Lib.hid (fun w => takeVersion_any R[k].2 (HSz.out _ hmem).2 w)
            have HGt0 := Lib.hid (fun w' (hg : Gr wr w') => get_tab (HTr.out.gr hg) R[k].1)
            clear hmem
            generalize readVersionR R[k].1.data.toList = r at *
            generalize takeVerR R[k].2.data.toList = u at *
            obtain ⟨rk, ra, rb, re⟩ := r
            obtain ⟨uv, ub, ue⟩ := u
            simp only at HRV HTV HNs
            have hrk : (⟨rk.toArray⟩ : ByteArray).toList = rk := by rw [ByteArray.toList_eq]
            have HLs := Lib.hid (fun w => less_any a b ra rb w)
            by_cases hre : re = 0
            · subst hre
              by_cases hue : ue = 0
              · subst hue
                cases k1 : Op.bytesLess rk lo.toList with
                | true =>
                  have HNo : Hid (nsl lo hi a b R[k] = false) := Lib.hid (by rw [HNs.out]; simp [klt, hrk, k1])
                  have hgv := HMay.out HNo.out
                  rw [hgv] at HGt0
                  simp only [outS] at HGt0
                  have HGt := HGt0
                  clear hgv HMay HNs
                  go_wp2_with fail
                  refine (HRV.out _).mono ?_
                  rintro e w20 ⟨rfl, hg20⟩
                  have HX20 := Lib.hid hg20
                  have r_12 := (hg20.alloc (.cells #[.int .i64 ra, .int .i64 rb] 24)).cell' r_1
                  clear hg20
                  go_wp2_with fail
                  refine (HTV.out _).mono ?_
                  rintro e w21 ⟨rfl, hg21⟩
                  have HX21 := Lib.hid (HX20.out.trans (((Gr.refl w20).alloc (.cells #[.int .i64 ra, .int .i64 rb] 24)).trans hg21))
                  have HS21 := Lib.hid (hg21.blk (heap_alloc_new w20 (.cells #[.int .i64 ra, .int .i64 rb] 24)))
                  have r_10 := HX21.out.cell' r_0
                  have r_11 := HX21.out.cell' r_1
                  clear hg21
                  go_wp2_with fail
                  refine (HGt.out _ HX21.out).mono ?_
                  rintro e w22 ⟨rfl, hg22⟩
                  have HX22 := Lib.hid (HX21.out.trans hg22)
                  obtain ⟨n_0, n_1, _, _, _⟩ := blk2 (hg22.blk HS21.out)
                  obtain ⟨j_0, j_1, _, _, _⟩ := blk2 (HX22.out.blk HBr.out)
                  obtain ⟨m_0, m_1, _, _, _⟩ := blk2 (HX22.out.blk HCr.out)
                  have HTy := Lib.hid (HTr.out.gr HX22.out)
                  have HGy := Lib.hid (HGr.out.trans HX22.out)
                  have HBy := Lib.hid (HX22.out.blk HBr.out)
                  have HCy := Lib.hid (HX22.out.blk HCr.out)
                  have HRy := Lib.hid (HRr.out.gr HX22.out)
                  clear hg22 r_10 r_11
                  go_wp2
                  go_roundw
                  case rel => exact ⟨k + 1, by go_num, by omega, HTy, HGy, HBy, HCy, HRy⟩
                  case measure => simp [intOf]; omega
                | false =>
                  cases k2 : Op.bytesLess rk hi.toList with
                  | false =>
                    have HNo : Hid (nsl lo hi a b R[k] = false) := Lib.hid (by rw [HNs.out]; simp [klt, hrk, k2])
                    have hgv := HMay.out HNo.out
                    rw [hgv] at HGt0
                    simp only [outS] at HGt0
                    have HGt := HGt0
                    clear hgv HMay HNs
                    go_wp2_with fail
                    refine (HRV.out _).mono ?_
                    rintro e w20 ⟨rfl, hg20⟩
                    have HX20 := Lib.hid hg20
                    have r_12 := (hg20.alloc (.cells #[.int .i64 ra, .int .i64 rb] 24)).cell' r_1
                    clear hg20
                    go_wp2_with fail
                    refine (HTV.out _).mono ?_
                    rintro e w21 ⟨rfl, hg21⟩
                    have HX21 := Lib.hid (HX20.out.trans (((Gr.refl w20).alloc (.cells #[.int .i64 ra, .int .i64 rb] 24)).trans hg21))
                    have HS21 := Lib.hid (hg21.blk (heap_alloc_new w20 (.cells #[.int .i64 ra, .int .i64 rb] 24)))
                    have r_10 := HX21.out.cell' r_0
                    have r_11 := HX21.out.cell' r_1
                    clear hg21
                    go_wp2_with fail
                    refine (HGt.out _ HX21.out).mono ?_
                    rintro e w22 ⟨rfl, hg22⟩
                    have HX22 := Lib.hid (HX21.out.trans hg22)
                    obtain ⟨n_0, n_1, _, _, _⟩ := blk2 (hg22.blk HS21.out)
                    obtain ⟨j_0, j_1, _, _, _⟩ := blk2 (HX22.out.blk HBr.out)
                    obtain ⟨m_0, m_1, _, _, _⟩ := blk2 (HX22.out.blk HCr.out)
                    have HTy := Lib.hid (HTr.out.gr HX22.out)
                    have HGy := Lib.hid (HGr.out.trans HX22.out)
                    have HBy := Lib.hid (HX22.out.blk HBr.out)
                    have HCy := Lib.hid (HX22.out.blk HCr.out)
                    have HRy := Lib.hid (HRr.out.gr HX22.out)
                    clear hg22 r_10 r_11
                    go_wp2
                    go_roundw
                    case rel => exact ⟨k + 1, by go_num, by omega, HTy, HGy, HBy, HCy, HRy⟩
                    case measure => simp [intOf]; omega
                  | true =>
                    cases k3 : lessS a b ra rb with
                    | true =>
                      rw [k3] at HLs
                      have HNo : Hid (nsl lo hi a b R[k] = false) := Lib.hid (by rw [HNs.out]; simp [k3])
                      clear k3
                      have hgv := HMay.out HNo.out
                      rw [hgv] at HGt0
                      simp only [outS] at HGt0
                      have HGt := HGt0
                      clear hgv HMay HNs
                      go_wp2_with fail
                      refine (HRV.out _).mono ?_
                      rintro e w20 ⟨rfl, hg20⟩
                      have HX20 := Lib.hid hg20
                      have r_12 := (hg20.alloc (.cells #[.int .i64 ra, .int .i64 rb] 24)).cell' r_1
                      clear hg20
                      go_wp2_with fail
                      refine (HTV.out _).mono ?_
                      rintro e w21 ⟨rfl, hg21⟩
                      have HX21 := Lib.hid (HX20.out.trans (((Gr.refl w20).alloc (.cells #[.int .i64 ra, .int .i64 rb] 24)).trans hg21))
                      have HS21 := Lib.hid (hg21.blk (heap_alloc_new w20 (.cells #[.int .i64 ra, .int .i64 rb] 24)))
                      have r_10 := HX21.out.cell' r_0
                      have r_11 := HX21.out.cell' r_1
                      clear hg21
                      go_wp2_with fail
                      refine (HGt.out _ HX21.out).mono ?_
                      rintro e w22 ⟨rfl, hg22⟩
                      have HX22 := Lib.hid (HX21.out.trans hg22)
                      obtain ⟨n_0, n_1, _, _, _⟩ := blk2 (hg22.blk HS21.out)
                      obtain ⟨j_0, j_1, _, _, _⟩ := blk2 (HX22.out.blk HBr.out)
                      obtain ⟨m_0, m_1, _, _, _⟩ := blk2 (HX22.out.blk HCr.out)
                      have HTy := Lib.hid (HTr.out.gr HX22.out)
                      have HGy := Lib.hid (HGr.out.trans HX22.out)
                      have HBy := Lib.hid (HX22.out.blk HBr.out)
                      have HCy := Lib.hid (HX22.out.blk HCr.out)
                      have HRy := Lib.hid (HRr.out.gr HX22.out)
                      clear hg22 r_10 r_11
                      go_wp2_with fail
                      refine (HLs.out _).mono ?_
                      rintro e w23 ⟨rfl, hg23⟩
                      replace HTy := Lib.hid (HTy.out.gr hg23)
                      replace HGy := Lib.hid (HGy.out.trans hg23)
                      replace HBy := Lib.hid (hg23.blk HBy.out)
                      replace HCy := Lib.hid (hg23.blk HCy.out)
                      replace HRy := Lib.hid (HRy.out.gr hg23)
                      clear hg23
                      go_wp2
                      go_roundw
                      case rel => exact ⟨k + 1, by go_num, by omega, HTy, HGy, HBy, HCy, HRy⟩
                      case measure => simp [intOf]; omega
                    | false =>
                      rw [k3] at HLs
                      clear k3
                      cases hgv : getR R[k].1 (rmv O R) with
                      | none =>
                        rw [hgv] at HGt0
                        simp only [outS] at HGt0
                        have HGt := HGt0
                        clear hgv HMay HNs
                        go_wp2_with fail
                        refine (HRV.out _).mono ?_
                        rintro e w20 ⟨rfl, hg20⟩
                        have HX20 := Lib.hid hg20
                        have r_12 := (hg20.alloc (.cells #[.int .i64 ra, .int .i64 rb] 24)).cell' r_1
                        clear hg20
                        go_wp2_with fail
                        refine (HTV.out _).mono ?_
                        rintro e w21 ⟨rfl, hg21⟩
                        have HX21 := Lib.hid (HX20.out.trans (((Gr.refl w20).alloc (.cells #[.int .i64 ra, .int .i64 rb] 24)).trans hg21))
                        have HS21 := Lib.hid (hg21.blk (heap_alloc_new w20 (.cells #[.int .i64 ra, .int .i64 rb] 24)))
                        have r_10 := HX21.out.cell' r_0
                        have r_11 := HX21.out.cell' r_1
                        clear hg21
                        go_wp2_with fail
                        refine (HGt.out _ HX21.out).mono ?_
                        rintro e w22 ⟨rfl, hg22⟩
                        have HX22 := Lib.hid (HX21.out.trans hg22)
                        obtain ⟨n_0, n_1, _, _, _⟩ := blk2 (hg22.blk HS21.out)
                        obtain ⟨j_0, j_1, _, _, _⟩ := blk2 (HX22.out.blk HBr.out)
                        obtain ⟨m_0, m_1, _, _, _⟩ := blk2 (HX22.out.blk HCr.out)
                        have HTy := Lib.hid (HTr.out.gr HX22.out)
                        have HGy := Lib.hid (HGr.out.trans HX22.out)
                        have HBy := Lib.hid (HX22.out.blk HBr.out)
                        have HCy := Lib.hid (HX22.out.blk HCr.out)
                        have HRy := Lib.hid (HRr.out.gr HX22.out)
                        clear hg22 r_10 r_11
                        go_wp2_with fail
                        refine (HLs.out _).mono ?_
                        rintro e w23 ⟨rfl, hg23⟩
                        replace HTy := Lib.hid (HTy.out.gr hg23)
                        replace HGy := Lib.hid (HGy.out.trans hg23)
                        replace HBy := Lib.hid (hg23.blk HBy.out)
                        replace HCy := Lib.hid (hg23.blk HCy.out)
                        replace HRy := Lib.hid (HRy.out.gr hg23)
                        clear hg23
                        go_wp2
                        go_roundw
                        case rel => exact ⟨k + 1, by go_num, by omega, HTy, HGy, HBy, HCy, HRy⟩
                        case measure => simp [intOf]; omega
                      | some sv =>
                        rw [hgv] at HGt0
                        simp only [outS] at HGt0
                        have HGt := HGt0
                        clear hgv HMay HNs
                        go_wp2_with fail
                        refine (HRV.out _).mono ?_
                        rintro e w20 ⟨rfl, hg20⟩
                        have HX20 := Lib.hid hg20
                        have r_12 := (hg20.alloc (.cells #[.int .i64 ra, .int .i64 rb] 24)).cell' r_1
                        clear hg20
                        go_wp2_with fail
                        refine (HTV.out _).mono ?_
                        rintro e w21 ⟨rfl, hg21⟩
                        have HX21 := Lib.hid (HX20.out.trans (((Gr.refl w20).alloc (.cells #[.int .i64 ra, .int .i64 rb] 24)).trans hg21))
                        have HS21 := Lib.hid (hg21.blk (heap_alloc_new w20 (.cells #[.int .i64 ra, .int .i64 rb] 24)))
                        have r_10 := HX21.out.cell' r_0
                        have r_11 := HX21.out.cell' r_1
                        clear hg21
                        go_wp2_with fail
                        refine (HGt.out _ HX21.out).mono ?_
                        rintro e w22 ⟨rfl, hg22⟩
                        have HX22 := Lib.hid (HX21.out.trans hg22)
                        obtain ⟨n_0, n_1, _, _, _⟩ := blk2 (hg22.blk HS21.out)
                        obtain ⟨j_0, j_1, _, _, _⟩ := blk2 (HX22.out.blk HBr.out)
                        obtain ⟨m_0, m_1, _, _, _⟩ := blk2 (HX22.out.blk HCr.out)
                        have HTy := Lib.hid (HTr.out.gr HX22.out)
                        have HGy := Lib.hid (HGr.out.trans HX22.out)
                        have HBy := Lib.hid (HX22.out.blk HBr.out)
                        have HCy := Lib.hid (HX22.out.blk HCr.out)
                        have HRy := Lib.hid (HRr.out.gr HX22.out)
                        clear hg22 r_10 r_11
                        go_wp2_with fail
                        refine (HLs.out _).mono ?_
                        rintro e w23 ⟨rfl, hg23⟩
                        replace HTy := Lib.hid (HTy.out.gr hg23)
                        replace HGy := Lib.hid (HGy.out.trans hg23)
                        replace HBy := Lib.hid (hg23.blk HBy.out)
                        replace HCy := Lib.hid (hg23.blk HCy.out)
                        replace HRy := Lib.hid (HRy.out.gr hg23)
                        clear hg23
                        go_wp2
                        go_roundw
                        case rel => exact ⟨k + 1, by go_num, by omega, HTy, HGy, HBy, HCy, HRy⟩
                        case measure => simp [intOf]; omega
              · have hz : (ue == 0) = false := by simpa using hue
                have HNo : Hid (nsl lo hi a b R[k] = false) := Lib.hid (by rw [HNs.out, hz]; simp)
                have hgv := HMay.out HNo.out
                rw [hgv] at HGt0
                simp only [outS] at HGt0
                have HGt := HGt0
                clear hgv HMay HNs
                go_wp2_with fail
                refine (HRV.out _).mono ?_
                rintro e w20 ⟨rfl, hg20⟩
                have HX20 := Lib.hid hg20
                have r_12 := (hg20.alloc (.cells #[.int .i64 ra, .int .i64 rb] 24)).cell' r_1
                clear hg20
                go_wp2_with fail
                refine (HTV.out _).mono ?_
                rintro e w21 ⟨rfl, hg21⟩
                have HX21 := Lib.hid (HX20.out.trans (((Gr.refl w20).alloc (.cells #[.int .i64 ra, .int .i64 rb] 24)).trans hg21))
                have HS21 := Lib.hid (hg21.blk (heap_alloc_new w20 (.cells #[.int .i64 ra, .int .i64 rb] 24)))
                have r_10 := HX21.out.cell' r_0
                have r_11 := HX21.out.cell' r_1
                clear hg21
                go_wp2_with fail
                refine (HGt.out _ HX21.out).mono ?_
                rintro e w22 ⟨rfl, hg22⟩
                have HX22 := Lib.hid (HX21.out.trans hg22)
                obtain ⟨n_0, n_1, _, _, _⟩ := blk2 (hg22.blk HS21.out)
                obtain ⟨j_0, j_1, _, _, _⟩ := blk2 (HX22.out.blk HBr.out)
                obtain ⟨m_0, m_1, _, _, _⟩ := blk2 (HX22.out.blk HCr.out)
                have HTy := Lib.hid (HTr.out.gr HX22.out)
                have HGy := Lib.hid (HGr.out.trans HX22.out)
                have HBy := Lib.hid (HX22.out.blk HBr.out)
                have HCy := Lib.hid (HX22.out.blk HCr.out)
                have HRy := Lib.hid (HRr.out.gr HX22.out)
                clear hg22 r_10 r_11
                go_wp2
                go_roundw
                case rel => exact ⟨k + 1, by go_num, by omega, HTy, HGy, HBy, HCy, HRy⟩
                case measure => simp [intOf]; omega
            · have hz : (re == 0) = false := by simpa using hre
              have HNo : Hid (nsl lo hi a b R[k] = false) := Lib.hid (by rw [HNs.out, hz]; simp)
              have hgv := HMay.out HNo.out
              rw [hgv] at HGt0
              simp only [outS] at HGt0
              have HGt := HGt0
              clear hgv HMay HNs
              go_wp2_with fail
              refine (HRV.out _).mono ?_
              rintro e w20 ⟨rfl, hg20⟩
              have HX20 := Lib.hid hg20
              have r_12 := (hg20.alloc (.cells #[.int .i64 ra, .int .i64 rb] 24)).cell' r_1
              clear hg20
              go_wp2_with fail
              refine (HTV.out _).mono ?_
              rintro e w21 ⟨rfl, hg21⟩
              have HX21 := Lib.hid (HX20.out.trans (((Gr.refl w20).alloc (.cells #[.int .i64 ra, .int .i64 rb] 24)).trans hg21))
              have HS21 := Lib.hid (hg21.blk (heap_alloc_new w20 (.cells #[.int .i64 ra, .int .i64 rb] 24)))
              have r_10 := HX21.out.cell' r_0
              have r_11 := HX21.out.cell' r_1
              clear hg21
              go_wp2_with fail
              refine (HGt.out _ HX21.out).mono ?_
              rintro e w22 ⟨rfl, hg22⟩
              have HX22 := Lib.hid (HX21.out.trans hg22)
              obtain ⟨n_0, n_1, _, _, _⟩ := blk2 (hg22.blk HS21.out)
              obtain ⟨j_0, j_1, _, _, _⟩ := blk2 (HX22.out.blk HBr.out)
              obtain ⟨m_0, m_1, _, _, _⟩ := blk2 (HX22.out.blk HCr.out)
              have HTy := Lib.hid (HTr.out.gr HX22.out)
              have HGy := Lib.hid (HGr.out.trans HX22.out)
              have HBy := Lib.hid (HX22.out.blk HBr.out)
              have HCy := Lib.hid (HX22.out.blk HCr.out)
              have HRy := Lib.hid (HRr.out.gr HX22.out)
              clear hg22 r_10 r_11
              go_wp2
              go_roundw
              case rel => exact ⟨k + 1, by go_num, by omega, HTy, HGy, HBy, HCy, HRy⟩
              case measure => simp [intOf]; omega
          · obtain rfl : k = R.length := by omega
            have hLn := again_len HRi.out HOe.out
            have HLt := Lib.hid (len_tab HTr.out)
            have hLI : ((rmv O R).length : Int) = (R.length : Int) - (O.length : Int) := by omega
            rw [hLI] at HLt
            clear hLI hLn
            go_wp2_with fail
            refine HLt.out.mono ?_
            rintro e w9 ⟨rfl, rfl⟩
            go_wp2
            go_ret
            exact ⟨ret_bool (by have h1 := HRl.out; have h2 := HOl.out; simp; unfold wrap64; omega), HGr.out⟩
end Go.Proofs.YtocijpeminghoaaGreatDoor
