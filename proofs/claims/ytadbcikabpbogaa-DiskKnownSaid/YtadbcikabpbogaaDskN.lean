/- Layer 7: Cut. -/
import Derived.Test.YtadbcikabpbogaaDskM
import Derived.BigQuiet
namespace Go.Proofs.Ytadbcikabpbogaa
open Go.RowKit Go.Maps
set_option maxRecDepth 100000
set_option linter.unusedVariables false
set_option linter.unusedSimpArgs false

theorem cut_any {D : Nat} {S : Nat → Prop} {st : DS} {L : List FB} {M : Nat} {kv : Value} {w : World} (h : DiskAt D S st L M kv w) (s : ByteArray) (hs : s.size ≤ maxLen) (n : Int) (hn : -9223372036854775808 ≤ n ∧ n ≤ 9223372036854775807) :
    Calls Try.prog 15 #[.pointer (some ⟨D, 0, none⟩), .string s, .int .i64 n] w fun e w' => Ans D S M kv w (st.cut s.data.toList n) e w' := by
  have HF := Lib.hid (fun W (hg : Gr w W) => find_any (h.gr hg) s hs)
  have HH := Lib.hid h
  have HFL := Lib.hid (getF_L h.fs s.data.toList)
  clear h hs
  by_cases hd : st.dead = true
  · have hr : st.cut s.data.toList n = (71, st) := by unfold DS.cut; rw [if_pos hd]
    rw [hr]
    simp only [hd, if_true] at HF
    clear hr hd
    go_enter Try.func15, Try.ntmps15
    go_wp2_with (go_at_call 40; refine (HF.out _ ((Gr.refl w).alloc _)).mono ?_; rintro e w1 ⟨rfl, rfl⟩)
    go_ret
    exact Ans.same HH.out (((Gr.refl w).alloc _).alloc _) 71
  · cases hk : getK FB.nm s.data.toList L with
    | none =>
      have hr : st.cut s.data.toList n = (70, st) := by unfold DS.cut; rw [if_neg hd, HFL.out, hk]; rfl
      rw [hr]
      simp only [hd, hk, ptrOf, if_true, Bool.false_eq_true, if_false] at HF
      clear hr hd hk
      go_enter Try.func15, Try.ntmps15
      go_wp2_with (go_at_call 40; refine (HF.out _ ((Gr.refl w).alloc _)).mono ?_; rintro e w1 ⟨rfl, rfl⟩)
      go_ret
      exact Ans.same HH.out (((Gr.refl w).alloc _).alloc _) 70
    | some x =>
      obtain ⟨hxL, hxn⟩ := getK_some hk
      have hf := HH.out.file x hxL
      obtain ⟨hxf, hsz⟩ := file_len HH.out hxL
      obtain ⟨q, c, hq⟩ := DiskAt.own_slice hf.own
      have hcell := hf.cell
      rw [hq] at hcell
      obtain ⟨k_0, k_1, g_0, g_1, l_0⟩ := blk2 hcell
      have hlen := fun W ty => len_u8 (w := W) (q := q) (n := x.f.b.length) (c := c) (ty := ty)
      simp only [hd, hk, ptrOf, reduceCtorEq, if_true, Bool.false_eq_true, if_false] at HF
      by_cases hneg : n < 0
      · have hr : st.cut s.data.toList n = (9, st) := by unfold DS.cut; rw [if_neg hd, HFL.out, hk]; simp [hneg]
        rw [hr]
        clear hr hd hk hxL hxn hf hxf hcell hq
        go_enter Try.func15, Try.ntmps15
        go_wp2_with (go_at_call 40; refine (HF.out _ ((Gr.refl w).alloc _)).mono ?_; rintro e w1 ⟨rfl, rfl⟩)
        go_quiet (fail)
        go_wp2
        go_ret
        exact Ans.same HH.out ((((Gr.refl w).alloc _).alloc _).drewN _) 9
      · have hlo : decide (n < 0) = false := by simpa using hneg
        by_cases hbig : (x.f.b.length : Int) < n
        · have hr : st.cut s.data.toList n = (9, st) := by unfold DS.cut; rw [if_neg hd, HFL.out, hk]; simp [hbig]
          rw [hr]
          clear hr hd hk hxL hxn hf hxf hcell hq
          go_enter Try.func15, Try.ntmps15
          go_wp2_with (go_at_call 40; refine (HF.out _ ((Gr.refl w).alloc _)).mono ?_; rintro e w1 ⟨rfl, rfl⟩)
          go_quiet (fail)
          go_wp2
          go_ret
          exact Ans.same HH.out ((((Gr.refl w).alloc _).alloc _).drewN _) 9
        · obtain ⟨m, rfl⟩ : ∃ m : Nat, n = m := ⟨n.toNat, by omega⟩
          have hm : m ≤ x.f.b.length := by omega
          have hr : st.cut s.data.toList m = st.work (putF ⟨x.f.nm, x.f.b.take m, min x.f.mark m⟩) := by
            unfold DS.cut
            rw [if_neg hd, HFL.out, hk]
            simp only [Option.map_some]
            rw [if_neg (by omega), Int.toNat_natCast, show s.data.toList = x.f.nm from hxn.symm]
          rw [hr]
          have HW : Hid (∀ W1, Gr w W1 → W1.heap[w.heap.size]? = some (.cells #[.int .i64 m] 3) → W1.heap[w.heap.size + 1]? = some (.cells #[.pointer (some ⟨x.blk, 0, none⟩)] 70) → _) := Lib.hid (fun W1 hg hB hC => work_did (HH.out.gr hg) hg 42 #[.pointer (some ⟨w.heap.size + 1, 0, none⟩), .pointer (some ⟨w.heap.size, 0, none⟩)] (fun w => by kernel_rfl) (putF ⟨x.f.nm, x.f.b.take m, min x.f.mark m⟩) S (fun _ h => .inl h) (fun w1 h1 h2 =>
            have hne : ∀ j, w.heap.size ≤ j → j ≠ D := fun j hj e => by have := (Array.getElem?_eq_some_iff.1 HH.out.cell).1; omega
            (cut_do h1 hxL hm (h2 _ _ (hne _ (by omega)) hC) (h2 _ _ (hne _ (by omega)) hB)).mono (fun e w' h => Did.toX h)))
          clear hr hd hk hxL hxn hf hxf hcell hq
          go_enter Try.func15, Try.ntmps15
          go_wp2_with (go_at_call 40; refine (HF.out _ ((Gr.refl w).alloc _)).mono ?_; rintro e w1 ⟨rfl, rfl⟩)
          go_quiet (fail)
          go_wp2_with fail
          refine (HW.out _ ((((Gr.refl w).alloc _).alloc _).drewN _) (heap_alloc1 (heap_newn rfl)) (heap_newn (by simp))).mono ?_
          rintro e w' ⟨rfl, hx, hf⟩
          go_wp2
          go_ret
          exact ⟨rfl, hx, hf⟩
end Go.Proofs.Ytadbcikabpbogaa
