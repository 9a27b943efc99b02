/- Layer 7: Read, Size, Names, Dead, Boot, New. -/
import Derived.Test.YtadbcikabpbogaaDskQ
import Derived.Test.YtadbcikabpbogaaShelf
namespace Go.Proofs.Ytadbcikabpbogaa
open Go.RowKit Go.Maps
set_option maxRecDepth 100000
set_option linter.unusedVariables false
set_option linter.unusedSimpArgs false

theorem Own.madeNil (W : World) {N : Nat} (hN : N ≤ W.heap.size) : Own (W.alloc (.cells #[] 5)) N (.slice (some ⟨W.heap.size, 0, none⟩) 0 0) [] :=
  ⟨by simp [nums], .inr ⟨W.heap.size, 0, _, rfl, hN, heap_alloc_new W _, by simp [nums], by decide, rfl, rfl⟩⟩
theorem clone_any {w : World} {N : Nat} {v : Value} {l : List UInt8} (ho : Own w N v l) (hlen : l.length ≤ 140737488355328) :
    Calls Try.prog 44 #[v] w fun e w' => ∃ v', e = .returned v' ∧ Own w' w.heap.size v' l ∧ Gr w w' := by
  have hq : ∀ (w : World) (a : Option Addr) (n c n' c' : Nat), (binOp .eql 30 (.slice a n c) (.slice none n' c')).run Try.prog w = .ok (.bool a.isNone) w := fun w a n c n' c' => Lib.run_eql_slice_nil w _ _ a n c n' c' Try.underlying30
  have h0 := ho.rd
  rcases ho.form with ⟨rfl, rfl⟩ | ⟨blk, cap, cur, rfl, h1, h2, h3, h4, h5, h6⟩
  · go_enter Try.func44, Try.ntmps44
    go_wp2
    go_ret
    exact ⟨_, rfl, Own.nil _ _, Gr.refl _⟩
  · have H := Lib.hid h0
    clear h0 h2 h5 h6 ho
    go_enter Try.func44, Try.ntmps44
    go_wp2_with (at_builtin; refine app_rd (N := w.heap.size) (by simp) (by rfl) (.tmp 5) (.tmp 6) (by rfl) [] l (by rfl) (by rfl) (Own.madeNil _ (Nat.le_refl _)) (H.out.gr (by repeat (first | (with_reducible exact Gr.refl _) | (with_reducible assumption) | (with_reducible refine Gr.alloc ?_ _) | (with_reducible refine Gr.drew ?_) | (with_reducible refine Gr.drewN ?_ _) | (with_reducible refine Gr.trans ?_ (by assumption)) | (with_reducible refine Gr.setCell ?_ (by first | exact Nat.le_refl _ | omega | (simp; done) | (simp; omega)) _)))) (by simp; omega) ?_; intro v1 w1 hown1 hgb1)
    have hg1 := (Own.madeNil w (Nat.le_refl _)).grew (by repeat (first | (with_reducible exact Gr.refl _) | (with_reducible assumption) | (with_reducible refine Gr.alloc ?_ _) | (with_reducible refine Gr.drew ?_) | (with_reducible refine Gr.drewN ?_ _) | (with_reducible refine Gr.trans ?_ (by assumption)) | (with_reducible refine Gr.setCell ?_ (by first | exact Nat.le_refl _ | omega | (simp; done) | (simp; omega)) _))) hgb1
    go_ret
    exact ⟨v1, rfl, by simpa using hown1, hg1⟩
theorem read_any {D : Nat} {S : Nat → Prop} {st : DS} {L : List FB} {M : Nat} {kv : Value} {w : World} (h : DiskAt D S st L M kv w) (s : ByteArray) (hs : s.size ≤ maxLen) :
    Calls Try.prog 17 #[.pointer (some ⟨D, 0, none⟩), .string s] w fun e w' => ∃ v, e = .returned (.tuple #[v, .int .i64 (st.read s.data.toList).2]) ∧ Own w' w.heap.size v (st.read s.data.toList).1 ∧ Gr w w' := by
  have HF := Lib.hid (find_any h s hs)
  have HH := Lib.hid h
  have HFL := Lib.hid (getF_L h.fs s.data.toList)
  clear h hs
  by_cases hd : st.dead = true
  · have hr : st.read s.data.toList = ([], 71) := by unfold DS.read; rw [if_pos hd]
    rw [hr]
    simp only [hd, if_true] at HF
    clear hr hd
    go_enter Try.func17, Try.ntmps17
    go_wp2_with (go_at_call 40; refine HF.out.mono ?_; rintro e w1 ⟨rfl, rfl⟩)
    go_ret2
    exact ⟨_, rfl, Own.nil _ _, Gr.refl _⟩
  · cases hk : getK FB.nm s.data.toList L with
    | none =>
      have hr : st.read s.data.toList = ([], 70) := by unfold DS.read; rw [if_neg hd, HFL.out, hk]; rfl
      rw [hr]
      simp only [hd, hk, ptrOf, if_true, Bool.false_eq_true, if_false] at HF
      clear hr hd hk
      go_enter Try.func17, Try.ntmps17
      go_wp2_with (go_at_call 40; refine HF.out.mono ?_; rintro e w1 ⟨rfl, rfl⟩)
      go_ret2
      exact ⟨_, rfl, Own.nil _ _, Gr.refl _⟩
    | some x =>
      obtain ⟨hxL, hxn⟩ := getK_some hk
      have hr : st.read s.data.toList = (x.f.b, 0) := by unfold DS.read; rw [if_neg hd, HFL.out, hk]; rfl
      rw [hr]
      simp only [hd, hk, ptrOf, reduceCtorEq, if_true, Bool.false_eq_true, if_false] at HF
      have hf := HH.out.file x hxL
      have HC := Lib.hid (clone_any hf.own (by have := (file_len HH.out hxL).2; omega))
      obtain ⟨k_0, k_1, g_0, g_1, l_0⟩ := blk2 hf.cell
      clear hf hr hd hk hxL hxn
      go_enter Try.func17, Try.ntmps17
      go_wp2_with (first | (go_at_call 40; refine HF.out.mono ?_; rintro e w1 ⟨rfl, rfl⟩) | (go_at_call 44; refine HC.out.mono ?_; rintro e w1 ⟨v1, rfl, ho, hg⟩))
      go_ret2
      exact ⟨_, rfl, ho, hg⟩
theorem size_any {D : Nat} {S : Nat → Prop} {st : DS} {L : List FB} {M : Nat} {kv : Value} {w : World} (h : DiskAt D S st L M kv w) (s : ByteArray) (hs : s.size ≤ maxLen) :
    Calls Try.prog 24 #[.pointer (some ⟨D, 0, none⟩), .string s] w fun e w' => e = .returned (.tuple #[.int .i64 ((st.read s.data.toList).1.length : Int), .int .i64 (st.read s.data.toList).2]) ∧ w = w' := by
  have HF := Lib.hid (find_any h s hs)
  have HH := Lib.hid h
  have HFL := Lib.hid (getF_L h.fs s.data.toList)
  clear h hs
  by_cases hd : st.dead = true
  · have hr : st.read s.data.toList = ([], 71) := by unfold DS.read; rw [if_pos hd]
    rw [hr]
    simp only [hd, if_true] at HF
    clear hr hd
    go_enter Try.func24, Try.ntmps24
    go_wp2_with (go_at_call 40; refine HF.out.mono ?_; rintro e w1 ⟨rfl, rfl⟩)
    go_ret2
    exact ⟨rfl, rfl⟩
  · cases hk : getK FB.nm s.data.toList L with
    | none =>
      have hr : st.read s.data.toList = ([], 70) := by unfold DS.read; rw [if_neg hd, HFL.out, hk]; rfl
      rw [hr]
      simp only [hd, hk, ptrOf, if_true, Bool.false_eq_true, if_false] at HF
      clear hr hd hk
      go_enter Try.func24, Try.ntmps24
      go_wp2_with (go_at_call 40; refine HF.out.mono ?_; rintro e w1 ⟨rfl, rfl⟩)
      go_ret2
      exact ⟨rfl, rfl⟩
    | some x =>
      obtain ⟨hxL, hxn⟩ := getK_some hk
      have hr : st.read s.data.toList = (x.f.b, 0) := by unfold DS.read; rw [if_neg hd, HFL.out, hk]; rfl
      rw [hr]
      simp only [hd, hk, ptrOf, reduceCtorEq, if_true, Bool.false_eq_true, if_false] at HF
      have hf := HH.out.file x hxL
      obtain ⟨q, c, hq⟩ := DiskAt.own_slice hf.own
      have hcell := hf.cell
      rw [hq] at hcell
      obtain ⟨k_0, k_1, g_0, g_1, l_0⟩ := blk2 hcell
      have hlen := fun ty => len_u8 (w := w) (q := q) (n := x.f.b.length) (c := c) (ty := ty)
      clear hf hr hd hk hxL hxn hcell hq
      go_enter Try.func24, Try.ntmps24
      go_wp2_with (go_at_call 40; refine HF.out.mono ?_; rintro e w1 ⟨rfl, rfl⟩)
      go_ret2
      exact ⟨rfl, rfl⟩
theorem names_any {D : Nat} {S : Nat → Prop} {st : DS} {L : List FB} {M : Nat} {kv : Value} {w : World} (h : DiskAt D S st L M kv w) :
    Calls Try.prog 19 #[.pointer (some ⟨D, 0, none⟩)] w fun e w' => ∃ v, e = .returned v ∧ w'.ownsRow w.heap.size 9 1 v st.names.length (st.names.map encStr) ∧ Gr w w' := by
  have HA := Lib.hid (ask_any h.cell)
  have HSo := Lib.hid (sorted_call h.map (rise_FB h.fs h.rise) (by have := h.many; rw [← h.fs, List.length_map] at this; omega))
  have HLN : Hid (L.map FB.nm = st.fs.map (·.nm)) := Lib.hid (by rw [← h.fs, List.map_map]; rfl)
  obtain ⟨k_0, k_1, k_2, k_3, g_0, g_1, g_2, g_3, l_0⟩ := blk4 h.cell
  clear h
  by_cases hd : st.dead = true
  · have hr : st.names = [] := by unfold DS.names; rw [if_pos hd]
    rw [hr]
    simp only [hd, if_true] at HA
    clear hr hd
    go_enter Try.func19, Try.ntmps19
    go_wp2_with (go_at_call 35; refine HA.out.mono ?_; rintro e w1 ⟨rfl, rfl⟩)
    go_ret
    exact ⟨_, rfl, World.ownsRow_nil _ _ _ _, Gr.refl _⟩
  · have hr : st.names = L.map FB.nm := by unfold DS.names; rw [if_neg hd, HLN.out]
    have HRt := Lib.hid hr
    simp only [hd, Bool.false_eq_true, if_false] at HA
    clear hr hd
    go_enter Try.func19, Try.ntmps19
    go_wp2_with (first | (go_at_call 35; refine HA.out.mono ?_; rintro e w1 ⟨rfl, rfl⟩) | (go_at_call 47; refine (keys_call _ _).mono ?_; rintro e w1 ⟨rfl, rfl⟩) | (go_at_call 46; refine HSo.out.mono ?_; rintro e w2 ⟨v2, rfl, hrow, hg2⟩))
    go_ret
    rw [HRt.out, List.length_map]
    exact ⟨_, rfl, hrow, hg2⟩
theorem dead_any {D : Nat} {S : Nat → Prop} {st : DS} {L : List FB} {M : Nat} {kv : Value} {w : World} (h : DiskAt D S st L M kv w) :
    Calls Try.prog 18 #[.pointer (some ⟨D, 0, none⟩)] w fun e w' => e = .returned (.bool st.dead) ∧ w = w' := by
  have HN := Lib.hid (none_any h.cell)
  obtain ⟨k_0, k_1, k_2, k_3, g_0, g_1, g_2, g_3, l_0⟩ := blk4 h.cell
  clear h
  go_enter Try.func18, Try.ntmps18
  go_wp2_with (go_at_call 45; refine HN.out.mono ?_; rintro e w1 ⟨rfl, rfl⟩)
  go_ret
  exact ⟨rfl, rfl⟩
theorem boot_any {D : Nat} {S : Nat → Prop} {st : DS} {L : List FB} {M : Nat} {kv : Value} {w : World} (h : DiskAt D S st L M kv w) :
    Calls Try.prog 20 #[.pointer (some ⟨D, 0, none⟩)] w fun e w' => e = .returned (.tuple #[]) ∧ DiskAt D S st.boot L M kv w' ∧ Fr S w w' := by
  have HN := Lib.hid (none_any h.cell)
  have HH := Lib.hid h
  have HC := Lib.hid (heap_set (heap_set h.cell 1 (.bool false)) 2 (.int .i64 (-1)))
  obtain ⟨k_0, k_1, k_2, k_3, g_0, g_1, g_2, g_3, l_0⟩ := blk4 h.cell
  clear h
  go_enter Try.func20, Try.ntmps20
  go_wp2_with (go_at_call 45; refine HN.out.mono ?_; rintro e w1 ⟨rfl, rfl⟩)
  go_end0
  refine ⟨rfl, HH.out.setD false (-1) (by omega) (by simpa using HC.out) (fun j o hj ho => heap_set_other (heap_set_other ho _ _ (fun e => hj e.symm)) _ _ (fun e => hj e.symm)), ⟨rfl, rfl, rfl, by simp, fun j o ho hn => heap_set_other (heap_set_other ho _ _ (fun e => hn (e ▸ HH.out.sD))) _ _ (fun e => hn (e ▸ HH.out.sD))⟩⟩
theorem new_any (w : World) : Calls Try.prog 10 #[] w fun e w' => ∃ D M, e = .returned (.pointer (some ⟨D, 0, none⟩)) ∧ DiskAt D (fun k => w.heap.size ≤ k) ⟨[], false, -1, []⟩ [] M (.slice none 0 0) w' ∧ Gr w w' := by
  have hm := run_makeMap (P := Try.prog) 65 w
  have HMd := Lib.hid (World.ownsMap_made (H := Unit) w Try.prog 9 ptrElem)
  go_enter Try.func10, Try.ntmps10
  go_wp2
  go_ret
  refine ⟨_, _, rfl, ⟨rfl, List.Pairwise.nil, heap_newn (by simp), ?_, by simp, by simp, .inl ⟨rfl, none, 0, rfl, by simp, by simp⟩, by simp [Value.ownBlock], by simp, Nat.le_refl _, by simp, by simp, by simp [allF], by simp, by simp⟩, ((Gr.refl w).alloc _).alloc _⟩
  exact ownsMap_blk HMd.out (fun o ho => heap_alloc1 ho)
theorem RdI.mkOwn {w : World} {N : Nat} {v : Value} {l : List Int} (h : w.ownsRow N 3 1 v l.length (l.map (Value.int .i64))) : RdI w v l ∧ ∀ g, v.ownBlock = some g → N ≤ g ∧ ∃ cs fz, w.heap[g]? = some (.cells cs 3 fz) := by
  rcases h.2 with ⟨rfl, hn⟩ | ⟨g, cap, cur, rfl, h2, h3, h4, h5, h6, h7⟩
  · obtain rfl : l = [] := List.eq_nil_of_length_eq_zero hn
    exact ⟨.inl ⟨rfl, none, 0, rfl, by simp, by simp⟩, by simp [Value.ownBlock]⟩
  · by_cases hl0 : l.length = 0
    · obtain rfl : l = [] := List.eq_nil_of_length_eq_zero hl0
      exact ⟨.inl ⟨rfl, _, cap, rfl, h5, by simp⟩, fun g' hg => by cases hg; exact ⟨h2, _, _, h3⟩⟩
    refine ⟨.inr ⟨g, 0, cap, rfl, by omega, h4, h5, (Array.getElem?_eq_some_iff.1 h3).1, fun j hj => ⟨intC l[j], rfl, fun i hi => ?_, rfl⟩⟩, fun g' hg => by cases hg; exact ⟨h2, _, _, h3⟩⟩
    obtain rfl : i = 0 := by simpa [intC] using hi
    have e : (cur.toList.take (l.length * 1))[j]? = (l.map (Value.int .i64))[j]? := by rw [h7]
    rw [List.getElem?_take, if_pos (by omega)] at e
    simp only [World.cell?, h3, Nat.zero_add, Nat.mul_one, Nat.add_zero]
    simp only [List.getElem?_map, List.getElem?_eq_getElem hj, Option.map_some, Array.getElem?_toList] at e
    simpa [intC] using e
theorem cloneI_any {w : World} {v : Value} {l : List Int} (h : RdI w v l) (hlen : l.length * 8 ≤ 140737488355328) :
    Calls Try.prog 39 #[v] w fun e w' => ∃ q n c, e = .returned (.slice q n c) ∧ RdI w' (.slice q n c) l ∧ (∀ g, (Value.slice q n c).ownBlock = some g → w.heap.size ≤ g ∧ ∃ cs fz, w'.heap[g]? = some (.cells cs 3 fz)) ∧ Gr w w' := by
  rcases h with ⟨rfl, q, c, rfl, hc, h2⟩ | ⟨blk, off, cap, rfl, h0, h1, h2, h3, h4⟩
  · cases q with
    | none =>
      obtain rfl : c = 0 := h2 rfl
      refine (Try.slices_Clone_int_nil 0 0 w).mono ?_
      rintro e w' ⟨rfl, rfl⟩
      exact ⟨none, 0, 0, rfl, .inl ⟨rfl, none, 0, rfl, by simp, by simp⟩, by simp [Value.ownBlock], Gr.refl _⟩
    | some a =>
      refine (Try.slices_Clone_int_zero a c w).mono ?_
      rintro e w' ⟨v', rfl, ho, _, hb⟩
      obtain ⟨hr, hs⟩ := RdI.mkOwn (l := []) ho
      obtain ⟨q, c', rfl⟩ := hr.form
      exact ⟨q, 0, c', rfl, hr, hs, ⟨hb⟩⟩
  · refine (Try.slices_Clone_int blk off l.length cap l w (Nat.le_refl _) hlen (fun j hj => ?_)).mono ?_
    · obtain ⟨ds, d1, d2, d3⟩ := h4 j hj
      unfold RE at d3
      subst d3
      have := d2 0 (by simp)
      simpa [List.getD_eq_getElem?_getD, List.getElem?_eq_getElem hj] using this
    · rintro e w' ⟨v', rfl, ho, _, hb⟩
      rw [List.take_of_length_le (Nat.le_refl _)] at ho
      obtain ⟨hr, hs⟩ := RdI.mkOwn (l := l) ho
      obtain ⟨q, c', rfl⟩ := hr.form
      exact ⟨q, _, c', rfl, hr, hs, ⟨hb⟩⟩
end Go.Proofs.Ytadbcikabpbogaa
