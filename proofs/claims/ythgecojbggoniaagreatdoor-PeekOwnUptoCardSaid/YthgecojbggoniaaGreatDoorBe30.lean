/- What the rows stand on, part 30: Two, RfkA. Printed by bundle.py out of my texts. -/
import Derived.Test.YthgecojbggoniaaGreatDoorBe16
import Derived.Test.YthgecojbggoniaaGreatDoorBe23
import Derived.Test.YthgecojbggoniaaGreatDoorBe29
namespace Go.Proofs.YthgecojbggoniaaGreatDoor
open Go.RowKit
set_option maxRecDepth 100000
set_option linter.unusedVariables false
set_option linter.unusedSimpArgs false
set_option linter.unnecessarySimpa false

theorem TabAt.fr1 {t tb : Nat} {S : Nat → Prop} {R : List Rw} {w w' : World} (h : TabAt t S R w) (hf : Fr1 tb w w') (hS : ¬ S tb) : TabAt t S R w' := by
  obtain ⟨lb, H, bx, L, x, seed, t1, t2, t3, t4, t5, t6⟩ := h.ex
  have hk : ∀ k, S k → k ≠ tb := fun k hk e => hS (e ▸ hk)
  exact ⟨⟨lb, H, bx, L, x, seed, hf.blk _ _ (hk _ t6) t1, hf.blk _ _ (hk _ t5) t2,
    { t3 with list := hf.blk _ _ (hk _ t3.sl) t3.list, chain := chainF_blk t3.chain (fun n hn o ho => hf.blk _ _ (hk _ (t3.sn n hn)) ho) }, t4, t5, t6⟩⟩
theorem TabAt.low {t : Nat} {S : Nat → Prop} {R : List Rw} {w : World} (h : TabAt t S R w) : TabAt t (fun k => S k ∧ k < w.heap.size) R w := by
  obtain ⟨lb, H, bx, L, x, seed, t1, t2, t3, t4, t5, t6⟩ := h.ex
  refine ⟨⟨lb, H, bx, L, x, seed, t1, t2, { t3 with sl := ⟨t3.sl, (Array.getElem?_eq_some_iff.1 t3.list).1⟩, sn := fun n hn => ⟨t3.sn n hn, ?_⟩ }, t4, ⟨t5, (Array.getElem?_eq_some_iff.1 t2).1⟩, ⟨t6, (Array.getElem?_eq_some_iff.1 t1).1⟩⟩⟩
  obtain ⟨A, B, e⟩ := List.append_of_mem hn
  have hc := t3.chain
  rw [e] at hc
  exact (Array.getElem?_eq_some_iff.1 (chainF_at hc)).1
theorem DocAt.fru {tb N : Nat} {S : Nat → Prop} {R : List Rw} {w w' : World} (h : DocAt tb N R w) (hf : FrU S w w') : DocAt tb N R w' := by
  refine h.blk (fun k cs t fz ht hk => hf.blk k _ hk (fun _ hi => ?_))
  rcases hi with ⟨cs', fz', h1 | h1⟩ | ⟨cs', fz', h1⟩ <;> injection h1 with _ h2 _ <;> rw [h2] at ht <;> rcases ht with ht | ht <;> exact absurd ht (by decide)
/-- the program's table and the document's, with the same rows -/
structure TwoAt (N ta tb : Nat) (R : List Rw) (w : World) : Prop where
  a : TabAt ta (fun k => N ≤ k ∧ k ≠ tb) R w
  b : DocAt tb N R w
theorem TwoAt.gr {N ta tb : Nat} {R : List Rw} {w w' : World} (h : TwoAt N ta tb R w) (hg : Gr w w') : TwoAt N ta tb R w' := ⟨h.a.gr hg, h.b.gr hg⟩
structure HalfAt (N ta tb : Nat) (R R' : List Rw) (w : World) : Prop where
  a : TabAt ta (fun k => N ≤ k ∧ k ≠ tb) R' w
  b : DocAt tb N R w
theorem HalfAt.gr {N ta tb : Nat} {R R' : List Rw} {w w' : World} (h : HalfAt N ta tb R R' w) (hg : Gr w w') : HalfAt N ta tb R R' w' := ⟨h.a.gr hg, h.b.gr hg⟩
theorem DocAt.lt {tb N : Nat} {R : List Rw} {w : World} (h : DocAt tb N R w) : tb < w.heap.size := by
  obtain ⟨v, h1, _⟩ := h.ex
  exact (Array.getElem?_eq_some_iff.1 h1).1
theorem FrU.cells {S : Nat → Prop} {W w' : World} (h : FrU S W w') {k : Nat} {cs : Array Value} {t : TypeId} {fz : Nat × Nat} (ht : t ≠ 150 ∧ t ≠ 153 ∧ t ≠ 154) (hk : W.heap[k]? = some (.cells cs t fz)) : w'.heap[k]? = some (.cells cs t fz) := by
  refine h.blk k _ hk (fun _ hi => ?_)
  rcases hi with ⟨cs', fz', h1 | h1⟩ | ⟨cs', fz', h1⟩ <;> injection h1 with _ h2 _
  · exact ht.1 h2
  · exact ht.2.1 h2
  · exact ht.2.2 h2
/-- own changes outlive a change of either table -/
theorem own_fru {S : Nat → Prop} {W w' : World} (h : FrU S W w') {N : Nat} {v : Value} {ops : List Opp} (ho : OwnG 67 3 oppC W N v ops) : OwnG 67 3 oppC w' N v ops :=
  ho.kept (fun g c f hh => h.cells ⟨by decide, by decide, by decide⟩ hh)
theorem Fr1.cells {tb : Nat} {W w' : World} (h : Fr1 tb W w') {v0 : Value} (hd : W.heap[tb]? = some (.cells #[v0] 61)) {k : Nat} {cs : Array Value} {t : TypeId} {fz : Nat × Nat} (ht : t ≠ 61) (hk : W.heap[k]? = some (.cells cs t fz)) : w'.heap[k]? = some (.cells cs t fz) := by
  refine h.blk k _ (fun e => ?_) hk
  rw [e, hd] at hk
  injection hk with hk
  injection hk with _ h2 _
  exact ht h2.symm
theorem own_fr1 {tb : Nat} {W w' : World} (h : Fr1 tb W w') {v0 : Value} (hd : W.heap[tb]? = some (.cells #[v0] 61)) {N : Nat} {v : Value} {ops : List Opp} (ho : OwnG 67 3 oppC W N v ops) : OwnG 67 3 oppC w' N v ops :=
  ho.kept (fun g c f hh => h.cells hd (by decide) hh)
/-- a slice of one own change -/
structure OneAt (v : Value) (o : Opp) (W : World) : Prop where
  rd : RdO W v [o]
  bl : ∃ g cur, v.ownBlock = some g ∧ W.heap[g]? = some (.cells cur 67)
theorem one_sub {w : World} {q : Option Addr} {c : Nat} {n : Nat} {l : List Opp} (h : RdO w (.slice q n c) l) (hn : n = l.length) {k : Nat} (hk : k < l.length) : ∃ blk off, q = some ⟨blk, off, none⟩ ∧ n ≤ c ∧ c ≤ 9223372036854775807 ∧ RdO w (.slice (some ⟨blk, off + k * 3, none⟩) 1 (c - k)) [l[k]] := by
  obtain ⟨blk, off, cap, e, h1, h2, _⟩ := RdO.at h hk
  cases e
  refine ⟨blk, off, rfl, by omega, by unfold maxLen at h2; exact h2, ?_⟩
  have h3 := RdE.take (RdE.drop h k (by omega)) 1 (by rw [List.length_drop]; omega)
  have e : (l.drop k).take 1 = [l[k]] := by rw [List.drop_eq_getElem_cons hk]; rfl
  rwa [e] at h3
theorem own_one {W : World} {N : Nat} {q : Option Addr} {n c : Nat} {ops : List Opp} (ho : OwnG 67 3 oppC W N (.slice q n c) ops) (hn : n = ops.length) {k : Nat} (hk : k < ops.length) : ∃ blk off, q = some ⟨blk, off, none⟩ ∧ n ≤ c ∧ c ≤ 9223372036854775807 ∧ ∀ W', OwnG 67 3 oppC W' N (.slice q n c) ops → OneAt (.slice (some ⟨blk, off + k * 3, none⟩) 1 (c - k)) ops[k] W' := by
  obtain ⟨blk, off, rfl, h1, h2, _⟩ := one_sub (ho.rd opEnc (by decide)) hn hk
  refine ⟨blk, off, rfl, h1, h2, fun W' ho' => ?_⟩
  obtain ⟨blk', off', e, _, _, h3⟩ := one_sub (ho'.rd opEnc (by decide)) hn hk
  cases e
  refine ⟨h3, ?_⟩
  rcases ho'.2 with ⟨h4, _⟩ | ⟨g, cap, cur, h4, _, h5, _⟩
  · cases h4
  · cases h4
    exact ⟨blk, cur, rfl, h5⟩
theorem one_lit {g : Nat} {K V : ByteArray} {w : World} (h : w.heap[g]? = some (.cells #[.string K, .string V, .bool false] 67)) : OneAt (.slice (some ⟨g, 0, none⟩) 1 1) ⟨K, V, false⟩ w := by
  refine ⟨.inr ⟨g, 0, 1, rfl, by simp, by simp, by decide, (Array.getElem?_eq_some_iff.1 h).1, fun i hi => ?_⟩, ⟨g, _, rfl, h⟩⟩
  obtain rfl : i = 0 := by simpa using hi
  refine ⟨_, rfl, fun j hj => ?_, rfl⟩
  have hj3 : j < 3 := hj
  simp only [World.cell?, h]
  obtain rfl | rfl | rfl : j = 0 ∨ j = 1 ∨ j = 2 := by omega
  all_goals simp [oppC]
/-- one change in the program's table -/
theorem two_a {N ta tb : Nat} {R : List Rw} {w w0 : World} (h : TwoAt N ta tb R w) (hw0 : w0.heap.size = N) (hgr : Gr w0 w) (hR : R.length ≤ 1000000) {v : Value} {o : Opp} (hv : OneAt v o w) :
    Calls Tryz.prog 28 #[.pointer (some ⟨ta, 0, none⟩), v] w fun e w' => e = .returned (.int .i64 (applyE [o])) ∧ HalfAt N ta tb R (afterR [o] R) w' ∧ Gr w0 w' ∧ FrU (fun k => N ≤ k) w w' := by
  obtain ⟨g, cur, hg1, hg2⟩ := hv.bl
  have hnt : ¬ isTab (.cells cur 67) := by
    rintro (⟨cs', fz', h1 | h1⟩ | ⟨cs', fz', h1⟩) <;> injection h1 with _ h2 _ <;> exact absurd h2 (by decide)
  refine (apply_tab h.a hv.rd (by simp) (by omega) (fun g' hg' _ _ => ?_)).mono ?_
  · rw [hg1] at hg'
    cases hg'
    exact ⟨_, _, _, hg2, hnt⟩
  rintro e w' ⟨rfl, h1, h2⟩
  have hlt := h.b.lt
  have hsz := hgr.size
  refine ⟨rfl, ⟨h1.mono (fun k hk => ?_), h.b.fru h2⟩, FrU.toGr hgr h2 (fun k hk => ?_), h2.mono (fun k hk _ => ?_)⟩
  · rcases hk with hk | hk
    · exact hk
    · exact ⟨by omega, by omega⟩
  · rcases hk with hk | hk
    · rw [hw0]; exact hk.1
    · omega
  · rcases hk with hk | hk
    · exact hk.1
    · omega
/-- .. and in the document's -/
theorem two_b {N ta tb : Nat} {R R' : List Rw} {w w0 : World} (h : HalfAt N ta tb R R' w) (hw0 : w0.heap.size = N) (hgr : Gr w0 w) (hR : R.length ≤ 1000000) {v : Value} {o : Opp} (hv : OneAt v o w) (hR' : R' = afterR [o] R) :
    Calls Tryz.prog 29 #[.pointer (some ⟨tb, 0, none⟩), v] w fun e w' => e = .returned (.int .i64 (applyE [o])) ∧ TwoAt N ta tb R' w' ∧ Gr w0 w' ∧ Fr1 tb w w' := by
  obtain ⟨g, cur, hg1, hg2⟩ := hv.bl
  have hsz := hgr.size
  refine (apply10 h.b (by omega) hv.rd (by simp; omega) (fun e => ?_)).mono ?_
  · rw [hg1] at e
    cases e
    obtain ⟨v, h1, _⟩ := h.b.ex
    rw [h1] at hg2
    injection hg2 with hg
    injection hg with _ h2 _
    exact absurd h2 (by decide)
  rintro e w' ⟨rfl, h1, h2⟩
  subst hR'
  exact ⟨rfl, ⟨h.a.fr1 h2 (fun hs => hs.2 rfl), h1⟩, Fr1.toGr hgr h2 (by rw [hw0]; exact h.b.low), h2⟩
theorem two_new {w w1 w2 : World} {ta tb : Nat} (h1 : TabAt ta (fun k => w.heap.size ≤ k) [] w1) (hg : Gr w w1) (h2 : DocAt tb w1.heap.size [] w2) (hg2 : Gr w1 w2) : TwoAt w.heap.size ta tb [] w2 :=
  ⟨(h1.low.mono (fun k hk => ⟨hk.1, by have := h2.low; have := hk.2; omega⟩)).gr hg2, h2.mono hg.size⟩
end Go.Proofs.YthgecojbggoniaaGreatDoor
namespace Go.Proofs.YthgecojbggoniaaGreatDoor
open Go.RowKit
set_option maxRecDepth 100000
set_option linter.unusedVariables false
set_option linter.unusedSimpArgs false
set_option linter.unnecessarySimpa false

theorem refIntentKey_any (s : ByteArray) (w : World) : Calls Tryz.prog 48 #[.string s] w fun e w' => e = .returned (.tuple #[.string ⟨(intentKeyR s.data.toList).1.toArray⟩, .int .i64 (intentKeyR s.data.toList).2]) ∧ Gr w w' := by
  have HK := Lib.hid (fun w => refKey_all s w)
  have HA := Lib.hid (str_append [105] (keyL s.data.toList))
  rcases keyR_cases s.data.toList with ⟨h1, h2⟩ | ⟨h1, h2⟩
  · have ht : intentKeyR s.data.toList = (105 :: keyL s.data.toList, 0) := by unfold intentKeyR; rw [if_pos h1]
    have hl1 := keyL_len _ h1
    rw [ht]
    rw [h2] at HK
    clear ht h2
    go_enter Tryz.func48, Tryz.ntmps48
    go_wp2_with (go_at_call 75; refine (HK.out _).mono ?_; rintro e w1 ⟨rfl, hg1⟩)
    go_ret2
    exact ⟨by rw [show (⟨(105 :: keyL s.data.toList).toArray⟩ : ByteArray) = _ from HA.out.symm]; rfl, hg1⟩
  · have ht : intentKeyR s.data.toList = ([], 2) := by unfold intentKeyR; rw [if_neg (by omega)]
    rw [ht]
    rw [h2] at HK
    clear ht h2
    go_enter Tryz.func48, Tryz.ntmps48
    go_wp2_with (go_at_call 75; refine (HK.out _).mono ?_; rintro e w1 ⟨rfl, hg1⟩)
    go_ret2
    exact ⟨rfl, hg1⟩
theorem refVersionKey_any (s : ByteArray) (a b : Int) (w : World) : Calls Tryz.prog 46 #[.string s, .agg #[.int .i64 a, .int .i64 b]] w fun e w' => e = .returned (.tuple #[.string ⟨(versionKeyR s.data.toList a b).1.toArray⟩, .int .i64 (versionKeyR s.data.toList a b).2]) ∧ Gr w w' := by
  have HK := Lib.hid (fun w => refKey_all s w)
  have HD := Lib.hid (fun w => refDown_all a b w)
  have HA := Lib.hid (str_append [118] (keyL s.data.toList))
  have HB := Lib.hid (str_append (118 :: keyL s.data.toList) (downL a b))
  rcases keyR_cases s.data.toList with ⟨h1, h2⟩ | ⟨h1, h2⟩ <;> rcases downR_cases a b with ⟨g1, g2⟩ | ⟨g1, g2⟩
  · have ht : versionKeyR s.data.toList a b = (118 :: (keyL s.data.toList ++ downL a b), 0) := by unfold versionKeyR; rw [if_pos ⟨h1, g1⟩]
    have hl1 := keyL_len _ h1
    have hl2 := downL_len a b
    have hl3 : (downL a b).length ≤ 9 := by omega
    rw [ht]
    rw [h2] at HK
    rw [g2] at HD
    clear ht g1 hl2
    clear h2 g2
    go_enter Tryz.func46, Tryz.ntmps46
    go_wp2_with (first
      | (go_at_call 75; refine (HK.out _).mono ?_; rintro e w1 ⟨rfl, hg1⟩; (have hX := hg1.blk (heap_alloc_new w (Obj.cells #[.int .i64 a, .int .i64 b] 26))); obtain ⟨k_0, k_1, g_0, g_1, l_0⟩ := blk2 hX; clear hX)
      | (go_at_call 76; refine (HD.out _).mono ?_; rintro e w2 ⟨rfl, hg2⟩))
    go_ret2
    exact ⟨by rw [show (⟨(118 :: (keyL s.data.toList ++ downL a b)).toArray⟩ : ByteArray) = _ from HB.out.symm]; rw [show (⟨(118 :: keyL s.data.toList).toArray⟩ : ByteArray) = _ from HA.out.symm]; rfl, (((Gr.refl w).alloc _).trans hg1).trans hg2⟩
  all_goals
    have ht : versionKeyR s.data.toList a b = ([], 2) := by unfold versionKeyR; rw [if_neg (by rintro ⟨h, h'⟩; first | omega | (rw [g1] at h'; simp at h'))]
    rw [ht]
    rw [h2] at HK
    rw [g2] at HD
    clear ht g1
    clear h2 g2
    go_enter Tryz.func46, Tryz.ntmps46
    go_wp2_with (first
      | (go_at_call 75; refine (HK.out _).mono ?_; rintro e w1 ⟨rfl, hg1⟩; (have hX := hg1.blk (heap_alloc_new w (Obj.cells #[.int .i64 a, .int .i64 b] 26))); obtain ⟨k_0, k_1, g_0, g_1, l_0⟩ := blk2 hX; clear hX)
      | (go_at_call 76; refine (HD.out _).mono ?_; rintro e w2 ⟨rfl, hg2⟩))
    go_ret2
    exact ⟨rfl, (((Gr.refl w).alloc _).trans hg1).trans hg2⟩
end Go.Proofs.YthgecojbggoniaaGreatDoor
