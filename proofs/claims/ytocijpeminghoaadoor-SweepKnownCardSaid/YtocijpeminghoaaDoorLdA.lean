/- The two tables beside each other: a change is done in both. -/
import Derived.Test.YtocijpeminghoaaDoorRftD
import Derived.Test.YtocijpeminghoaaDoorSweB
namespace Go.Proofs.YtocijpeminghoaaDoor
open Go.RowKit
set_option maxRecDepth 100000
set_option linter.unusedVariables false
set_option linter.unusedSimpArgs false
set_option linter.unnecessarySimpa false

theorem TabAt.fr1 {t tb : Nat} {S : Nat → Prop} {R : List Rw} {w w' : World} (h : TabAt t S R w) (hf : Fr1 tb w w') (hS : ¬ S tb) : TabAt t S R w' := by
  obtain ⟨lb, H, bx, L, x, seed, t1, t2, t3, t4, t5, t6⟩ := h.ex
  have hk : ∀ k, S k → k ≠ tb := fun k hk e => hS (e ▸ hk)
  exact ⟨⟨lb, H, bx, L, x, seed, hf.blk _ _ (hk _ t6) t1, hf.blk _ _ (hk _ t5) t2,
    { t3 with list := hf.blk _ _ (hk _ t3.sl) t3.list, chain := chainF_blk t3.chain (fun n hn o ho => hf.blk _ _ (hk _ (t3.sn n hn)) ho) }, t4, t5, t6⟩⟩
theorem TabAt.low {t : Nat} {S : Nat → Prop} {R : List Rw} {w : World} (h : TabAt t S R w) : TabAt t (fun k => S k ∧ k < w.heap.size) R w := by
  obtain ⟨lb, H, bx, L, x, seed, t1, t2, t3, t4, t5, t6⟩ := h.ex
  refine ⟨⟨lb, H, bx, L, x, seed, t1, t2, { t3 with sl := ⟨t3.sl, (Array.getElem?_eq_some_iff.1 t3.list).1⟩, sn := fun n hn => ⟨t3.sn n hn, ?_⟩ }, t4, ⟨t5, (Array.getElem?_eq_some_iff.1 t2).1⟩, ⟨t6, (Array.getElem?_eq_some_iff.1 t1).1⟩⟩⟩
  obtain ⟨A, B, e⟩ := List.append_of_mem hn
  have hc := t3.chain
  rw [e] at hc
  exact (Array.getElem?_eq_some_iff.1 (chainF_at hc)).1
theorem DocAt.fru {tb N : Nat} {S : Nat → Prop} {R : List Rw} {w w' : World} (h : DocAt tb N R w) (hf : FrU S w w') : DocAt tb N R w' := by
  refine h.blk (fun k cs t fz ht hk => hf.blk k _ hk (fun _ hi => ?_))
  rcases hi with ⟨cs', fz', h1 | h1⟩ | ⟨cs', fz', h1⟩ <;> injection h1 with _ h2 _ <;> rw [h2] at ht <;> rcases ht with ht | ht <;> exact absurd ht (by decide)
/-- the program's table and the document's, with the same rows -/
structure TwoAt (N ta tb : Nat) (R : List Rw) (w : World) : Prop where
  a : TabAt ta (fun k => N ≤ k ∧ k ≠ tb) R w
  b : DocAt tb N R w
theorem TwoAt.gr {N ta tb : Nat} {R : List Rw} {w w' : World} (h : TwoAt N ta tb R w) (hg : Gr w w') : TwoAt N ta tb R w' := ⟨h.a.gr hg, h.b.gr hg⟩
structure HalfAt (N ta tb : Nat) (R R' : List Rw) (w : World) : Prop where
  a : TabAt ta (fun k => N ≤ k ∧ k ≠ tb) R' w
  b : DocAt tb N R w
theorem HalfAt.gr {N ta tb : Nat} {R R' : List Rw} {w w' : World} (h : HalfAt N ta tb R R' w) (hg : Gr w w') : HalfAt N ta tb R R' w' := ⟨h.a.gr hg, h.b.gr hg⟩
theorem DocAt.lt {tb N : Nat} {R : List Rw} {w : World} (h : DocAt tb N R w) : tb < w.heap.size := by
  obtain ⟨v, h1, _⟩ := h.ex
  exact (Array.getElem?_eq_some_iff.1 h1).1
theorem one_rdo {g : Nat} {K V : ByteArray} {w : World} (h : w.heap[g]? = some (.cells #[.string K, .string V, .bool false] 54)) : RdO w (.slice (some ⟨g, 0, none⟩) 1 1) [⟨K, V, false⟩] := by
  refine .inr ⟨g, 0, 1, rfl, by simp, by simp, by decide, (Array.getElem?_eq_some_iff.1 h).1, fun i hi => ?_⟩
  obtain rfl : i = 0 := by simpa using hi
  refine ⟨_, rfl, fun j hj => ?_, rfl⟩
  have hj3 : j < 3 := hj
  simp only [World.cell?, h]
  obtain rfl | rfl | rfl : j = 0 ∨ j = 1 ∨ j = 2 := by omega
  all_goals simp [oppC]
theorem put_a {N ta tb g : Nat} {R : List Rw} {w w0 : World} (h : TwoAt N ta tb R w) (hw0 : w0.heap.size = N) (hgr : Gr w0 w) (hR : R.length ≤ 1000000) {K V : ByteArray} (hg : w.heap[g]? = some (.cells #[.string K, .string V, .bool false] 54)) :
    Calls Tryd.prog 32 #[.pointer (some ⟨ta, 0, none⟩), .slice (some ⟨g, 0, none⟩) 1 1] w fun e w' => e = .returned (.int .i64 (applyE [⟨K, V, false⟩])) ∧ HalfAt N ta tb R (afterR [⟨K, V, false⟩] R) w' ∧ Gr w0 w' ∧ w'.heap[g]? = some (.cells #[.string K, .string V, .bool false] 54) := by
  have hnt : ¬ isTab (.cells #[.string K, .string V, .bool false] 54) := by
    rintro (⟨cs', fz', h1 | h1⟩ | ⟨cs', fz', h1⟩) <;> injection h1 with _ h2 _ <;> exact absurd h2 (by decide)
  refine (apply_tab h.a (one_rdo hg) (by simp) (by omega) (fun g' hg' _ _ => ?_)).mono ?_
  · simp only [Value.ownBlock, Option.some.injEq] at hg'
    subst hg'
    exact ⟨_, _, _, hg, hnt⟩
  rintro e w' ⟨rfl, h1, h2⟩
  have hlt := h.b.lt
  have hsz := hgr.size
  refine ⟨rfl, ⟨h1.mono (fun k hk => ?_), h.b.fru h2⟩, FrU.toGr hgr h2 (fun k hk => ?_), h2.blk _ _ hg (fun _ => hnt)⟩
  · rcases hk with hk | hk
    · exact hk
    · exact ⟨by omega, by omega⟩
  · rcases hk with hk | hk
    · rw [hw0]; exact hk.1
    · omega
theorem put_b {N ta tb g : Nat} {R R' : List Rw} {w w0 : World} (h : HalfAt N ta tb R R' w) (hw0 : w0.heap.size = N) (hgr : Gr w0 w) (hR : R.length ≤ 1000000) {K V : ByteArray} (hg : w.heap[g]? = some (.cells #[.string K, .string V, .bool false] 54)) (hR' : R' = afterR [⟨K, V, false⟩] R) :
    Calls Tryd.prog 33 #[.pointer (some ⟨tb, 0, none⟩), .slice (some ⟨g, 0, none⟩) 1 1] w fun e w' => e = .returned (.int .i64 (applyE [⟨K, V, false⟩])) ∧ TwoAt N ta tb R' w' ∧ Gr w0 w' := by
  have hsz := hgr.size
  refine (apply10 h.b (by omega) (one_rdo hg) (by simp; omega) (fun e => ?_)).mono ?_
  · simp only [Value.ownBlock, Option.some.injEq] at e
    subst e
    obtain ⟨v, h1, _⟩ := h.b.ex
    rw [h1] at hg
    injection hg with hg
    injection hg with _ h2 _
    exact absurd h2 (by decide)
  rintro e w' ⟨rfl, h1, h2⟩
  subst hR'
  exact ⟨rfl, ⟨h.a.fr1 h2 (fun hs => hs.2 rfl), h1⟩, Fr1.toGr hgr h2 (by rw [hw0]; exact h.b.low)⟩
theorem two_new {w w1 w2 : World} {ta tb : Nat} (h1 : TabAt ta (fun k => w.heap.size ≤ k) [] w1) (hg : Gr w w1) (h2 : DocAt tb w1.heap.size [] w2) (hg2 : Gr w1 w2) : TwoAt w.heap.size ta tb [] w2 :=
  ⟨(h1.low.mono (fun k hk => ⟨hk.1, by have := h2.low; have := hk.2; omega⟩)).gr hg2, h2.mono hg.size⟩
end Go.Proofs.YtocijpeminghoaaDoor
