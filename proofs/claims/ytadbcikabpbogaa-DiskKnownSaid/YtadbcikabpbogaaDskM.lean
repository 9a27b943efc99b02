/- Layer 7: Sync, Cut, Rename, Remove. -/
import Derived.Test.YtadbcikabpbogaaDskJ
namespace Go.Proofs.Ytadbcikabpbogaa
open Go.RowKit Go.Maps
set_option maxRecDepth 100000
set_option linter.unusedVariables false
set_option linter.unusedSimpArgs false

/-- what a deed leaves -/
def Ans (D : Nat) (S : Nat → Prop) (M : Nat) (kv : Value) (w : World) (r : Int × DS) (e : Ending) (w' : World) : Prop := e = .returned (.int .i64 r.1) ∧ (∃ L, DiskAt D (Up S w) r.2 L M kv w') ∧ Fr S w w'
theorem work_did {D : Nat} {S : Nat → Prop} {st : DS} {L : List FB} {M : Nat} {kv : Value} {w W1 : World} (h : DiskAt D S st L M kv W1) (hg : Gr w W1) (k : FuncId) (caps : Array Value) (hcf : ∀ w, (callFunc k caps).run Try.prog w = .ok (.enter k caps) w) (G : List DF → List DF) (X : Nat → Prop) (hX : ∀ j, X j → S j ∨ w.heap.size ≤ j)
    (hdo : ∀ w1, DiskAt D S { st with left := decL st.left } L M kv w1 → (∀ j o, j ≠ D → W1.heap[j]? = some o → w1.heap[j]? = some o) → Calls Try.prog k caps w1 fun e w' => e = .returned (.tuple #[]) ∧ (∃ L', DiskAt D (Up S w1) { st with left := decL st.left, fs := G st.fs } L' M kv w') ∧ Fr X w1 w') :
    Calls Try.prog 37 #[.pointer (some ⟨D, 0, none⟩), .func (.func k) #[] caps] W1 fun e w' => Ans D S M kv w (st.work G) e w' := by
  refine (work_any h k caps hcf (fun w' => (∃ L', DiskAt D (Up S w) { st with left := decL st.left, fs := G st.fs } L' M kv w') ∧ Fr S w w') (fun h0 w1 h1 h2 h3 => ?_)).mono ?_
  · have hf1 : Fr S w w1 := (Fr.gr hg S).trans h3 (fun _ h _ => h)
    refine (hdo w1 h1 h2).mono ?_
    rintro e w' ⟨rfl, ⟨L', hL'⟩, hf⟩
    refine ⟨rfl, ⟨L', hL'.mono (fun j hj => ?_)⟩, hf1.trans hf (fun j hj hlt => ?_)⟩
    · rcases hj with hj | hj
      · exact .inl hj
      · exact .inr (Nat.le_trans hf1.size hj)
    · rcases hX j hj with h | h
      · exact h
      · omega
  · rintro e w' (⟨h0, rfl, ⟨L', hL'⟩, hf⟩ | ⟨h0, rfl, ⟨L', hL'⟩, hf⟩)
    · refine ⟨by simp [DS.work, h0], ⟨L', ?_⟩, (Fr.gr hg S).trans hf (fun _ h _ => h)⟩
      simp only [DS.work, h0, if_pos]
      exact hL'.mono (fun _ h => .inl h)
    · refine ⟨by simp [DS.work, h0], ⟨L', ?_⟩, hf⟩
      simp only [DS.work, if_neg h0]
      exact hL'
theorem getF_L {L : List FB} {fs : List DF} (h : L.map FB.f = fs) (nm : List UInt8) : getF nm fs = (getK FB.nm nm L).map FB.f := by
  subst h
  exact (getK_map (key := DF.nm) FB.f nm L).symm
theorem Did.toX {D : Nat} {S : Nat → Prop} {st : DS} {M : Nat} {kv : Value} {w w' : World} {e : Ending} (h : e = .returned (.tuple #[]) ∧ Did D S st M kv w w') : e = .returned (.tuple #[]) ∧ (∃ L', DiskAt D (Up S w) st L' M kv w') ∧ Fr S w w' := ⟨h.1, h.2.1, h.2.2⟩

theorem Ans.same {D : Nat} {S : Nat → Prop} {st : DS} {L : List FB} {M : Nat} {kv : Value} {w w' : World} (h : DiskAt D S st L M kv w) (hg : Gr w w') (r : Int) : Ans D S M kv w (r, st) (.returned (.int .i64 r)) w' := ⟨rfl, ⟨L, (h.gr hg).mono (fun _ h => .inl h)⟩, Fr.gr hg S⟩
theorem sync_any {D : Nat} {S : Nat → Prop} {st : DS} {L : List FB} {M : Nat} {kv : Value} {w : World} (h : DiskAt D S st L M kv w) (s : ByteArray) (hs : s.size ≤ maxLen) :
    Calls Try.prog 14 #[.pointer (some ⟨D, 0, none⟩), .string s] w fun e w' => Ans D S M kv w (st.sync s.data.toList) e w' := by
  have HF := Lib.hid (find_any h s hs)
  have HH := Lib.hid h
  have HFL := Lib.hid (getF_L h.fs s.data.toList)
  clear h hs
  by_cases hd : st.dead = true
  · have HD := Lib.hid hd
    have hr : st.sync s.data.toList = (71, st) := by unfold DS.sync; rw [if_pos hd]
    rw [hr]
    rw [if_pos hd, if_pos hd] at HF
    clear hr hd
    go_enter Try.func14, Try.ntmps14
    go_wp2_with (go_at_call 40; refine HF.out.mono ?_; rintro e w1 ⟨rfl, rfl⟩)
    go_ret
    exact Ans.same HH.out ((Gr.refl w).alloc _) 71
  · have hd' : st.dead = false := by simpa using hd
    cases hk : getK FB.nm s.data.toList L with
    | none =>
      have hr : st.sync s.data.toList = (70, st) := by unfold DS.sync; rw [if_neg hd, HFL.out, hk]; rfl
      rw [hr]
      rw [if_neg hd, if_neg hd, hk] at HF
      simp only [ptrOf, if_true] at HF
      clear hr hd hd' hk
      go_enter Try.func14, Try.ntmps14
      go_wp2_with (go_at_call 40; refine HF.out.mono ?_; rintro e w1 ⟨rfl, rfl⟩)
      go_ret
      exact Ans.same HH.out ((Gr.refl w).alloc _) 70
    | some x =>
      obtain ⟨hxL, hxn⟩ := getK_some hk
      have hr : st.sync s.data.toList = st.work (putF ⟨x.f.nm, x.f.b, x.f.b.length⟩) := by
        unfold DS.sync
        rw [if_neg hd, HFL.out, hk]
        show st.work _ = _
        rw [show s.data.toList = x.f.nm from hxn.symm]
      rw [hr]
      rw [if_neg hd, if_neg hd, hk] at HF
      simp only [ptrOf, reduceCtorEq, if_false] at HF
      have HW : Hid (∀ W1, Gr w W1 → W1.heap[w.heap.size]? = some (.cells #[.pointer (some ⟨x.blk, 0, none⟩)] 70) → _) := Lib.hid (fun W1 hg hB => work_did (HH.out.gr hg) hg 41 #[.pointer (some ⟨w.heap.size, 0, none⟩)] (fun w => by kernel_rfl) (putF ⟨x.f.nm, x.f.b, x.f.b.length⟩) S (fun _ h => .inl h) (fun w1 h1 h2 =>
        (sync_do h1 hxL (h2 _ _ (fun e => by have := (Array.getElem?_eq_some_iff.1 HH.out.cell).1; omega) hB)).mono (fun e w' h => Did.toX h)))
      clear hr hd hd' hk hxL
      go_enter Try.func14, Try.ntmps14
      go_wp2_with (go_at_call 40; refine HF.out.mono ?_; rintro e w1 ⟨rfl, rfl⟩)
      go_wp2_with fail
      refine (HW.out _ ((Gr.refl w).alloc _) (heap_newn rfl)).mono ?_
      rintro e w' ⟨rfl, hx, hf⟩
      go_wp2
      go_ret
      exact ⟨rfl, hx, hf⟩
theorem heap_alloc1 {w : World} {j : Nat} {o o' : Obj} (h : w.heap[j]? = some o) : (w.alloc o').heap[j]? = some o := (Gr.refl _).alloc _ |>.blk h
theorem remove_any {D : Nat} {S : Nat → Prop} {st : DS} {L : List FB} {M : Nat} {kv : Value} {w : World} (h : DiskAt D S st L M kv w) (s : ByteArray) (hs : s.size ≤ maxLen) :
    Calls Try.prog 33 #[.pointer (some ⟨D, 0, none⟩), .string s] w fun e w' => Ans D S M kv w (st.remove s.data.toList) e w' := by
  have HF := Lib.hid (fun W (hg : Gr w W) => find_any (h.gr hg) s hs)
  have HH := Lib.hid h
  have HFL := Lib.hid (getF_L h.fs s.data.toList)
  have HS := Lib.hid hs
  clear h hs
  by_cases hd : st.dead = true
  · have hr : st.remove s.data.toList = (71, st) := by unfold DS.remove; rw [if_pos hd]
    rw [hr]
    simp only [hd, if_true] at HF
    clear hr hd
    go_enter Try.func33, Try.ntmps33
    go_wp2_with (go_at_call 40; refine (HF.out _ (((Gr.refl w).alloc _).alloc _)).mono ?_; rintro e w1 ⟨rfl, rfl⟩)
    go_ret
    exact Ans.same HH.out (((Gr.refl w).alloc _).alloc _) 71
  · cases hk : getK FB.nm s.data.toList L with
    | none =>
      have hr : st.remove s.data.toList = (70, st) := by unfold DS.remove; rw [if_neg hd, HFL.out, hk]; rfl
      rw [hr]
      simp only [hd, hk, ptrOf, if_true, Bool.false_eq_true, if_false] at HF
      clear hr hd hk
      go_enter Try.func33, Try.ntmps33
      go_wp2_with (go_at_call 40; refine (HF.out _ (((Gr.refl w).alloc _).alloc _)).mono ?_; rintro e w1 ⟨rfl, rfl⟩)
      go_ret
      exact Ans.same HH.out (((Gr.refl w).alloc _).alloc _) 70
    | some x =>
      have hr : st.remove s.data.toList = st.work (delF s.data.toList) := by
        unfold DS.remove
        rw [if_neg hd, HFL.out, hk]
        rfl
      rw [hr]
      simp only [hd, hk, ptrOf, reduceCtorEq, if_true, Bool.false_eq_true, if_false] at HF
      have HW : Hid (∀ W1, Gr w W1 → W1.heap[w.heap.size]? = some (.cells #[.pointer (some ⟨D, 0, none⟩)] 24) → W1.heap[w.heap.size + 1]? = some (.cells #[.string s] 9) → _) := Lib.hid (fun W1 hg hB hC => work_did (HH.out.gr hg) hg 66 #[.pointer (some ⟨w.heap.size, 0, none⟩), .pointer (some ⟨w.heap.size + 1, 0, none⟩)] (fun w => by kernel_rfl) (delF s.data.toList) S (fun _ h => .inl h) (fun w1 h1 h2 =>
        (remove_do h1 HS.out (h2 _ _ (fun e => by have := (Array.getElem?_eq_some_iff.1 HH.out.cell).1; omega) hB) (h2 _ _ (fun e => by have := (Array.getElem?_eq_some_iff.1 HH.out.cell).1; omega) hC)).mono (fun e w' h => Did.toX h)))
      clear hr hd hk
      go_enter Try.func33, Try.ntmps33
      go_wp2_with (go_at_call 40; refine (HF.out _ (((Gr.refl w).alloc _).alloc _)).mono ?_; rintro e w1 ⟨rfl, rfl⟩)
      go_wp2_with fail
      refine (HW.out _ (((Gr.refl w).alloc _).alloc _) (heap_alloc1 (heap_newn rfl)) (heap_newn (by simp))).mono ?_
      rintro e w' ⟨rfl, hx, hf⟩
      go_wp2
      go_ret
      exact ⟨rfl, hx, hf⟩
theorem rename_any {D : Nat} {S : Nat → Prop} {st : DS} {L : List FB} {M : Nat} {kv : Value} {w : World} (h : DiskAt D S st L M kv w) (s t : ByteArray) (hs : s.size ≤ maxLen) (ht : t.size ≤ maxLen) :
    Calls Try.prog 16 #[.pointer (some ⟨D, 0, none⟩), .string s, .string t] w fun e w' => Ans D S M kv w (st.rename s.data.toList t.data.toList) e w' := by
  have HF := Lib.hid (fun W (hg : Gr w W) => find_any (h.gr hg) s hs)
  have HM := Lib.hid (fun W => mayName_any t W)
  have HH := Lib.hid h
  have HFL := Lib.hid (getF_L h.fs s.data.toList)
  have HS := Lib.hid hs
  clear h hs ht
  by_cases hd : st.dead = true
  · have hr : st.rename s.data.toList t.data.toList = (71, st) := by unfold DS.rename; rw [if_pos hd]
    rw [hr]
    simp only [hd, if_true] at HF
    clear hr hd
    go_enter Try.func16, Try.ntmps16
    go_wp2_with (go_at_call 40; refine (HF.out _ ((((Gr.refl w).alloc _).alloc _).alloc _)).mono ?_; rintro e w1 ⟨rfl, rfl⟩)
    go_ret
    exact Ans.same HH.out (((((Gr.refl w).alloc _).alloc _).alloc _).alloc _) 71
  · cases hk : getK FB.nm s.data.toList L with
    | none =>
      have hr : st.rename s.data.toList t.data.toList = (70, st) := by unfold DS.rename; rw [if_neg hd, HFL.out, hk]; rfl
      rw [hr]
      simp only [hd, hk, ptrOf, if_true, Bool.false_eq_true, if_false] at HF
      clear hr hd hk
      go_enter Try.func16, Try.ntmps16
      go_wp2_with (go_at_call 40; refine (HF.out _ ((((Gr.refl w).alloc _).alloc _).alloc _)).mono ?_; rintro e w1 ⟨rfl, rfl⟩)
      go_ret
      exact Ans.same HH.out (((((Gr.refl w).alloc _).alloc _).alloc _).alloc _) 70
    | some x =>
      obtain ⟨hxL, hxn⟩ := getK_some hk
      cases hok : nameOk t.data.toList with
      | false =>
        have hr : st.rename s.data.toList t.data.toList = (70, st) := by unfold DS.rename; rw [if_neg hd, HFL.out, hk]; simp [hok]
        rw [hr]
        simp only [hd, hk, ptrOf, reduceCtorEq, if_true, Bool.false_eq_true, if_false] at HF
        rw [hok] at HM
        clear hr hd hk hok hxL hxn
        go_enter Try.func16, Try.ntmps16
        go_wp2_with (first | (go_at_call 40; refine (HF.out _ ((((Gr.refl w).alloc _).alloc _).alloc _)).mono ?_; rintro e w1 ⟨rfl, rfl⟩) | (go_at_call 36; refine (HM.out _).mono ?_; rintro e w1 ⟨rfl, rfl⟩))
        go_ret
        exact Ans.same HH.out (((((Gr.refl w).alloc _).alloc _).alloc _).alloc _) 70
      | true =>
        have hr : st.rename s.data.toList t.data.toList = st.work (fun fs => putF ⟨t.data.toList, x.f.b, x.f.mark⟩ (delF s.data.toList fs)) := by
          unfold DS.rename
          rw [if_neg hd, HFL.out, hk]
          simp [hok]
        rw [hr]
        simp only [hd, hk, ptrOf, reduceCtorEq, if_true, Bool.false_eq_true, if_false] at HF
        have h40 : t.size ≤ 40 := by
          have h2 : t.data.toList.length = t.size := Array.length_toList
          unfold nameOk at hok
          simp at hok
          omega
        rw [hok] at HM
        have HW : Hid (∀ W1, Gr w W1 → W1.heap[w.heap.size]? = some (.cells #[.pointer (some ⟨D, 0, none⟩)] 24) → W1.heap[w.heap.size + 1]? = some (.cells #[.string s] 9) → W1.heap[w.heap.size + 2]? = some (.cells #[.string t] 9) → W1.heap[w.heap.size + 3]? = some (.cells #[.pointer (some ⟨x.blk, 0, none⟩)] 70) → _) := Lib.hid (fun W1 hg hB hC hE hF => work_did (HH.out.gr hg) hg 43 #[.pointer (some ⟨w.heap.size, 0, none⟩), .pointer (some ⟨w.heap.size + 1, 0, none⟩), .pointer (some ⟨w.heap.size + 3, 0, none⟩), .pointer (some ⟨w.heap.size + 2, 0, none⟩)] (fun w => by kernel_rfl) (fun fs => putF ⟨t.data.toList, x.f.b, x.f.mark⟩ (delF s.data.toList fs)) S (fun _ h => .inl h) (fun w1 h1 h2 =>
          have hne : ∀ j, w.heap.size ≤ j → j ≠ D := fun j hj e => by have := (Array.getElem?_eq_some_iff.1 HH.out.cell).1; omega
          (rename_do h1 hxL HS.out hxn h40 (h2 _ _ (hne _ (by omega)) hB) (h2 _ _ (hne _ (by omega)) hC) (h2 _ _ (hne _ (by omega)) hF) (h2 _ _ (hne _ (by omega)) hE)).mono (fun e w' h => Did.toX h)))
        clear hr hd hk hok hxL hxn h40
        go_enter Try.func16, Try.ntmps16
        go_wp2_with (first | (go_at_call 40; refine (HF.out _ ((((Gr.refl w).alloc _).alloc _).alloc _)).mono ?_; rintro e w1 ⟨rfl, rfl⟩) | (go_at_call 36; refine (HM.out _).mono ?_; rintro e w1 ⟨rfl, rfl⟩))
        go_wp2_with fail
        refine (HW.out _ (((((Gr.refl w).alloc _).alloc _).alloc _).alloc _) (heap_alloc1 (heap_alloc1 (heap_alloc1 (heap_newn rfl)))) (heap_alloc1 (heap_alloc1 (heap_newn (by simp)))) (heap_alloc1 (heap_newn (by simp))) (heap_newn (by simp))).mono ?_
        rintro e w' ⟨rfl, hx, hf⟩
        go_wp2
        go_ret
        exact ⟨rfl, hx, hf⟩
end Go.Proofs.Ytadbcikabpbogaa
