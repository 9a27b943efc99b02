/- Layer 7: Append: the walk. -/
import Derived.Test.YtadbcikabpbogaaDskO
namespace Go.Proofs.Ytadbcikabpbogaa
open Go.RowKit Go.Maps
set_option maxRecDepth 100000
set_option linter.unusedVariables false
set_option linter.unusedSimpArgs false

set_option maxHeartbeats 4000000 in
theorem append_any {D : Nat} {S : Nat → Prop} {st : DS} {L : List FB} {M : Nat} {kv : Value} {w : World} (h : DiskAt D S st L M kv w) (s : ByteArray) (hs : s.size ≤ maxLen) {bv : Value} {l : List UInt8} (hl : Rd w bv l) (hll : l.length ≤ 140737488355328) (hbv : ∀ g, bv.ownBlock = some g → l ≠ [] → ¬ S g) :
    Calls Try.prog 12 #[.pointer (some ⟨D, 0, none⟩), .string s, bv] w fun e w' => Ans D S M kv w (st.append s.data.toList l) e w' := by
  obtain ⟨bq, bn, bc, rfl⟩ := hl.slice'
  have HA := Lib.hid (fun W (hg : Gr w W) => ask_any (h.gr hg).cell)
  have HM := Lib.hid (fun W => mayName_any s W)
  have HH := Lib.hid h
  have HFL := Lib.hid (getF_L h.fs s.data.toList)
  have HS := Lib.hid hs
  have HRd := Lib.hid hl
  have HBV := Lib.hid hbv
  have HLl := Lib.hid hll
  clear h hs hl hbv hll
  by_cases hd : st.dead = true
  · have hr : st.append s.data.toList l = (71, st) := by unfold DS.append; rw [if_pos hd]
    rw [hr]
    simp only [hd, if_true] at HA
    clear hr hd
    go_enter Try.func12, Try.ntmps12
    go_wp2_with (go_at_call 35; refine (HA.out _ ((((Gr.refl w).alloc _).alloc _).alloc _)).mono ?_; rintro e w1 ⟨rfl, rfl⟩)
    go_ret
    exact Ans.same HH.out ((((Gr.refl w).alloc _).alloc _).alloc _) 71
  · cases hok : nameOk s.data.toList with
    | false =>
      have hr : st.append s.data.toList l = (70, st) := by unfold DS.append; rw [if_neg hd, if_pos hok]
      rw [hr]
      simp only [hd, if_true, Bool.false_eq_true, if_false] at HA
      rw [hok] at HM
      clear hr hd hok
      go_enter Try.func12, Try.ntmps12
      go_wp2_with (first | (go_at_call 35; refine (HA.out _ ((((Gr.refl w).alloc _).alloc _).alloc _)).mono ?_; rintro e w1 ⟨rfl, rfl⟩) | (go_at_call 36; refine (HM.out _).mono ?_; rintro e w1 ⟨rfl, rfl⟩))
      go_ret
      exact Ans.same HH.out ((((Gr.refl w).alloc _).alloc _).alloc _) 70
    | true =>
      simp only [hd, if_true, Bool.false_eq_true, if_false] at HA
      rw [hok] at HM
      have hlen := fun W ty (hg : Gr w W) => len_rd (ty := ty) (HRd.out.gr hg)
      have HD := Lib.hid hd
      have HOK := Lib.hid hok
      clear hd hok
      have HG3 := Lib.hid ((((Gr.refl w).alloc (.cells #[.pointer (some ⟨D, 0, none⟩)] 24)).alloc (.cells #[.string s] 9)).alloc (.cells #[.slice bq bn bc] 30))
      obtain ⟨k_0, k_1, k_2, k_3, g_0, g_1, g_2, g_3, l_0⟩ := blk4 (HH.out.gr HG3.out).cell
      have hlen1 := fun ty => hlen _ ty HG3.out
      go_enter Try.func12, Try.ntmps12
      go_wp2_with (first | (go_at_call 35; refine (HA.out _ ((((Gr.refl w).alloc _).alloc _).alloc _)).mono ?_; rintro e w1 ⟨rfl, rfl⟩) | (go_at_call 36; refine (HM.out _).mono ?_; rintro e w1 ⟨rfl, rfl⟩) | (at_range; refine wpList_range_own _ rfl _ 65 rfl 9 70 strK Try.underlying65 ptrElem M L.length (mapD L) rfl (HH.out.gr ((((Gr.refl w).alloc _).alloc _).alloc _)).map ?_; intro w0 hrg0 hg0 hs0))
      go_frame
      have hB3 : (((w.alloc (.cells #[.pointer (some ⟨D, 0, none⟩)] 24)).alloc (.cells #[.string s] 9)).alloc (.cells #[.slice bq bn bc] 30)).heap[w.heap.size]? = _ := heap_alloc1 (heap_alloc1 (heap_newn rfl))
      have hC3 : (((w.alloc (.cells #[.pointer (some ⟨D, 0, none⟩)] 24)).alloc (.cells #[.string s] 9)).alloc (.cells #[.slice bq bn bc] 30)).heap[w.heap.size + 1]? = _ := heap_alloc1 (heap_newn (by simp))
      have hE3 : (((w.alloc (.cells #[.pointer (some ⟨D, 0, none⟩)] 24)).alloc (.cells #[.string s] 9)).alloc (.cells #[.slice bq bn bc] 30)).heap[w.heap.size + 1 + 1]? = _ := heap_newn (by simp)
      have hr3 : (((w.alloc (.cells #[.pointer (some ⟨D, 0, none⟩)] 24)).alloc (.cells #[.string s] 9)).alloc (.cells #[.slice bq bn bc] 30)).heap.size = w.heap.size + 1 + 1 + 1 := by simp
      have HB3 := Lib.hid hB3
      have HC3 := Lib.hid hC3
      have HE3 := Lib.hid hE3
      have HR3 := Lib.hid hr3
      clear hB3 hC3 hE3 hr3 k_0 k_1 k_2 k_3 g_0 g_1 g_2 g_3 l_0 hlen1 hlen HA HM hs0
      generalize (((w.alloc (.cells #[.pointer (some ⟨D, 0, none⟩)] 24)).alloc (.cells #[.string s] 9)).alloc (.cells #[.slice bq bn bc] 30)) = W3 at *
      have HG0 : Hid (Gr W3 w0) := Lib.hid ((Gr.refl W3).grown hg0 (fun k e => by cases e))
      clear hg0
      have HRG0 := Lib.hid hrg0
      clear hrg0
      have hall := HH.out.all
      have hLf := HH.out.fs
      have HLF := Lib.hid hLf
      clear hLf
      have hll := HLl.out
      go_loopw [8] (fun v wr => ∃ (left : Lit → Bool) (cnt : Nat), v = .int .i64 ((l.length + doneL left L : Nat) : Int) ∧ Hid (wr.ranges Try.prog 9 ptrElem M W3.heap.size L.length (mapD L) left cnt) ∧ Hid (Gr W3 wr)) (fun _ wr => wr.rangeLeft M W3.heap.size)
      case atStart => exact ⟨_, _, by rw [doneL_start (fun x hx => has_mapD hx)]; rfl, HRG0, HG0⟩
      case round =>
        obtain ⟨left, cnt, rfl, HRG, HG⟩ := hrel
        have hdl := doneL_le left L
        rw [HLF.out] at hdl
        go_wp2_with (at_next; refine wpList_next_ranges _ rfl _ rfl 9 strK ptrElem Value.string mkPF (fun key kl h => by obtain ⟨x, rfl, _⟩ := strKey_inv h; exact ⟨x, rfl⟩) (fun v y h => ptrElem_mk h) M W3.heap.size L.length (mapD L) left cnt rfl HRG.out ?_ ?_)
        · intro hc0 hl0
          have hsum := doneL_end hl0 L
          rw [HLF.out] at hsum
          rw [hsum]
          clear hsum hdl hl0 hc0 HRG
          have HDr := Lib.hid (HH.out.gr (HG3.out.trans HG.out))
          have HGw := Lib.hid (HG3.out.trans HG.out)
          have hlk1 := look_any (w := wr.drew) (HDr.out.gr (Gr.refl wr).drew).map s HS.out
          have hlk2 := look_any (w := (wr.alloc (.cells #[.pointer none] 70)).drew) (HDr.out.gr ((Gr.refl wr).alloc _).drew).map s HS.out
          have hB := HG.out.blk HB3.out
          have hC := HG.out.blk HC3.out
          have hE := HG.out.blk HE3.out
          have HB := Lib.hid hB
          have HC := Lib.hid hC
          have HE := Lib.hid hE
          obtain ⟨k_0, k_1, k_2, k_3, g_0, g_1, g_2, g_3, l_0⟩ := blk4 HDr.out.cell
          obtain ⟨b_0, bg_0, bl_0⟩ := blk1 hB
          obtain ⟨c_0, cg_0, cl_0⟩ := blk1 hC
          obtain ⟨e_0, eg_0, el_0⟩ := blk1 hE
          clear hB hC hE
          cases hk : getK FB.nm s.data.toList L with
          | none =>
            rw [hk] at hlk1 hlk2
            simp only [ptrOf] at hlk1 hlk2
            have HK := Lib.hid hk
            clear hk
            have hml := fun ty => (HDr.out.gr ((Gr.refl wr).alloc (.cells #[.pointer none] 70)).drew).map.len Try.underlying65 ty
            rw [mapD_size] at hml
            have hLs : L.length = st.fs.length := by rw [← HLF.out, List.length_map]
            have HLs := Lib.hid hLs
            clear hLs
            have HRs := Lib.hid (append_none (l := l) HD.out HOK.out (by rw [HFL.out, HK.out]; rfl))
            by_cases h20 : 20 ≤ L.length
            · have HRt := Lib.hid (HRs.out.trans (if_pos (.inl (by rw [← HLs.out]; exact h20))))
              have hi20 : (20 : Int) ≤ (L.length : Int) := by omega
              go_wp2
              go_region
              all_goals
                go_wp2
                go_ret
                rw [HRt.out]
                exact Ans.same HH.out ((HGw.out.alloc _).drew) 7
            · by_cases hbig : 4194304 < allF st.fs + l.length
              · have HRt := Lib.hid (HRs.out.trans (if_pos (.inr hbig)))
                have hi20 : (L.length : Int) < (20 : Int) := by omega
                have hib : (4194304 : Int) < (l.length : Int) + (allF st.fs : Int) := by omega
                go_wp2
                go_region
                all_goals
                  go_wp2
                  go_ret
                  rw [HRt.out]
                  exact Ans.same HH.out ((HGw.out.alloc _).drew) 7
              · have HRt := Lib.hid (HRs.out.trans (if_neg (by rw [← HLs.out]; omega)))
                have hi20 : decide ((20 : Int) ≤ (L.length : Int)) = false := by simp; omega
                have hib : decide ((4194304 : Int) < (l.length : Int) + (allF st.fs : Int)) = false := by simp; omega
                have HW : Hid (∀ W1, Gr wr W1 → W1.heap[wr.heap.size]? = some (.cells #[.pointer none] 70) → _) := Lib.hid (fun W1 hg hF => work_did (HDr.out.gr hg) (HGw.out.trans hg) 38 #[.pointer (some ⟨wr.heap.size, 0, none⟩), .pointer (some ⟨w.heap.size, 0, none⟩), .pointer (some ⟨w.heap.size + 1, 0, none⟩), .pointer (some ⟨w.heap.size + 1 + 1, 0, none⟩)] (fun w => by kernel_rfl) (putF ⟨s.data.toList, l, 0⟩) (fun k => S k ∨ k = wr.heap.size) (fun k hk => by
                  rcases hk with hk | rfl
                  · exact .inl hk
                  · exact .inr HGw.out.size) (fun w1 h1 h2 =>
                  have hne : ∀ j, w.heap.size ≤ j → j ≠ D := fun j hj e => by have := (Array.getElem?_eq_some_iff.1 HH.out.cell).1; omega
                  append_new h1 HK.out (by
                    have h3 : s.data.toList.length = s.size := Array.length_toList
                    have h4 := HOK.out
                    unfold nameOk at h4
                    simp at h4
                    omega) (by show st.fs.length < 20; rw [← HLs.out]; omega) ((HRd.out.gr (HGw.out.trans hg)).blk (fun g o hgv hne2 ho => h2 _ _ (fun e => HBV.out g hgv hne2 (e ▸ HH.out.sD)) ho)) (by show allF st.fs + l.length ≤ 4194304; omega)
                    (h2 _ _ (hne _ HGw.out.size) hF) (h2 _ _ (hne _ (by omega)) (hg.blk HB.out)) (h2 _ _ (hne _ (by omega)) (hg.blk HC.out)) (h2 _ _ (hne _ (by omega)) (hg.blk HE.out)) (fun g hgv hne2 => ⟨fun e => HBV.out g hgv hne2 (e ▸ HH.out.sM), fun e => by
                      have h3 := HRd.out.lt hgv hne2
                      have h4 := HGw.out.size
                      omega⟩)))
                go_wp2
                go_region
                all_goals
                  go_wp2_with fail
                  refine (HW.out _ (((Gr.refl wr).alloc _).drew) (heap_newn rfl)).mono ?_
                  rintro e w' ⟨rfl, hx, hf⟩
                  go_wp2
                  go_ret
                  rw [HRt.out]
                  exact ⟨rfl, hx, hf⟩
          | some x =>
            rw [hk] at hlk1 hlk2
            simp only [ptrOf] at hlk1 hlk2
            obtain ⟨hxL, hxn⟩ := getK_some hk
            have HK := Lib.hid hk
            have HXL := Lib.hid hxL
            have HYtadbcikabpbogaa := Lib.hid (show x.f.nm = s.data.toList from hxn)
            clear hk hxL hxn
            have HRs := Lib.hid (append_some (l := l) (f := x.f) HD.out HOK.out (by rw [HFL.out, HK.out]; rfl))
            by_cases hbig : 4194304 < allF st.fs + l.length
            · have HRt := Lib.hid (HRs.out.trans (if_pos hbig))
              have hib : (4194304 : Int) < (l.length : Int) + (allF st.fs : Int) := by omega
              go_wp2
              go_region
              all_goals
                go_wp2
                go_ret
                rw [HRt.out]
                exact Ans.same HH.out ((HGw.out.alloc _).drew) 7
            · have HRt := Lib.hid (HRs.out.trans (if_neg hbig))
              have hib : decide ((4194304 : Int) < (l.length : Int) + (allF st.fs : Int)) = false := by simp; omega
              have HW : Hid (∀ W1, Gr wr W1 → W1.heap[wr.heap.size]? = some (.cells #[.pointer (some ⟨x.blk, 0, none⟩)] 70) → _) := Lib.hid (fun W1 hg hF => work_did (HDr.out.gr hg) (HGw.out.trans hg) 38 #[.pointer (some ⟨wr.heap.size, 0, none⟩), .pointer (some ⟨w.heap.size, 0, none⟩), .pointer (some ⟨w.heap.size + 1, 0, none⟩), .pointer (some ⟨w.heap.size + 1 + 1, 0, none⟩)] (fun w => by kernel_rfl) (putF ⟨s.data.toList, x.f.b ++ l, x.f.mark⟩) S (fun k hk => .inl hk) (fun w1 h1 h2 =>
                have hne : ∀ j, w.heap.size ≤ j → j ≠ D := fun j hj e => by have := (Array.getElem?_eq_some_iff.1 HH.out.cell).1; omega
                (append_old h1 HXL.out (l := l) (bv := .slice bq bn bc) ((HRd.out.gr (HGw.out.trans hg)).blk (fun g o hgv hne2 ho => h2 _ _ (fun e => HBV.out g hgv hne2 (e ▸ HH.out.sD)) ho)) (by show allF st.fs + l.length ≤ 4194304; omega)
                  (h2 _ _ (hne _ HGw.out.size) hF) (h2 _ _ (hne _ (by omega)) (hg.blk HE.out)) _ _).mono (fun e w' h => by rw [← HYtadbcikabpbogaa.out]; exact Did.toX h)))
              go_wp2
              go_region
              all_goals
                go_wp2_with fail
                refine (HW.out _ (((Gr.refl wr).alloc _).drew) (heap_newn rfl)).mono ?_
                rintro e w' ⟨rfl, hx, hf⟩
                go_wp2
                go_ret
                rw [HRt.out]
                exact ⟨rfl, hx, hf⟩
        · intro x c kl y ps w1 cnt1 hkey hlk hv hat hrg1 hlt hg1 hs1 hen
          obtain ⟨f, hf, rfl, rfl⟩ := entry_file (y := (y, ps)) hkey hv hat
          have HG1 : Hid (Gr W3 w1) := Lib.hid (HG.out.grown hg1 (fun k e => by cases e; exact Nat.le_refl _))
          have HRG1 := Lib.hid hrg1
          have hstep := doneL_step (left := left) (rise_L HH.out) hf hlk
          have hle2 := doneL_le (fun z => left z && !z.sameKey (.string f.f.nm)) L
          rw [HLF.out] at hle2
          clear hkey hv hat hrg1 hg1 hlk
          have hfa := (HH.out.gr (HG3.out.trans HG1.out)).file f hf
          obtain ⟨fq, fc, hq⟩ := DiskAt.own_slice hfa.own
          have hcell := hfa.cell
          rw [hq] at hcell
          obtain ⟨k_0, k_1, g_0, g_1, l_0⟩ := blk2 hcell
          have hlen := fun ty => len_u8 (w := w1) (q := fq) (n := f.f.b.length) (c := fc) (ty := ty)
          clear hfa hcell hq
          simp only [mkPF] at hen ⊢
          have HST := Lib.hid hstep
          rw [hstep] at hle2
          clear hstep
          go_wp2
          go_roundw
          case rel => exact ⟨_, cnt1, by rw [HST.out]; go_num, HRG1, HG1⟩
          case measure => rw [HRG1.out.left_eq, HRG.out.left_eq]; exact hlt
end Go.Proofs.Ytadbcikabpbogaa
