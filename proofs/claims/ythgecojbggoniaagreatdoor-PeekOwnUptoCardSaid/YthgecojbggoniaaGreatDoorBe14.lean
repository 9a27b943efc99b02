/- What the rows stand on, part 14: CelI, CelD. Printed by bundle.py out of my texts. -/
import Derived.Test.YthgecojbggoniaaGreatDoorBe01
import Derived.Test.YthgecojbggoniaaGreatDoorBe10
import Derived.Test.YthgecojbggoniaaGreatDoorBe13
namespace Go.Proofs.YthgecojbggoniaaGreatDoor
open Go.RowKit
set_option maxRecDepth 100000
set_option linter.unusedVariables false
set_option linter.unusedSimpArgs false

/-- Nothing that was there has turned, but block B. -/
structure Fx (B : Nat) (w w' : World) : Prop where
  os : w'.os = w.os
  tape : w'.tape = w.tape
  output : w'.output = w.output
  size : w.heap.size ≤ w'.heap.size
  blk : ∀ k o, w.heap[k]? = some o → k ≠ B → w'.heap[k]? = some o
theorem Fx.refl (B : Nat) (w : World) : Fx B w w := ⟨rfl, rfl, rfl, Nat.le_refl _, fun _ _ h _ => h⟩
theorem Fx.trans {B : Nat} {a b c : World} (h : Fx B a b) (k : Fx B b c) : Fx B a c :=
  ⟨k.os.trans h.os, k.tape.trans h.tape, k.output.trans h.output, Nat.le_trans h.size k.size, fun i o ho hb => k.blk i o (h.blk i o ho hb) hb⟩
theorem Fx.gr {a b : World} (h : Gr a b) (B : Nat) : Fx B a b := ⟨h.b.os, h.b.tape, h.b.output, h.b.size, fun i o ho _ => h.blk ho⟩
theorem Fx.set {a : World} {B : Nat} (i : Nat) (u : Value) : Fx B a (a.setCell ⟨B, i, none⟩ u) :=
  ⟨rfl, rfl, rfl, by simp, fun k o ho hb => heap_set_other ho _ _ (fun e => hb e.symm)⟩
theorem Fx.toGr {w0 a b : World} {B : Nat} (hg : Gr w0 a) (h : Fx B a b) (hB : w0.heap.size ≤ B) : Gr w0 b := by
  refine ⟨⟨h.os.trans hg.b.os, h.tape.trans hg.b.tape, h.output.trans hg.b.output, Nat.le_trans hg.b.size h.size, fun k hk => ?_⟩⟩
  have hk2 : k < w0.heap.size := hk
  have h1 := hg.b.block k hk
  rw [← h1]
  have hka : k < a.heap.size := Nat.lt_of_lt_of_le hk2 hg.b.size
  rw [h.blk k a.heap[k] (Array.getElem?_eq_getElem hka) (by omega), Array.getElem?_eq_getElem hka]

theorem Rd.slice {a : World} {v : Value} {l : List UInt8} (h : Rd a v l) : ∃ (q : Option Addr) (n c : Nat), v = .slice q n c := by
  rcases h with ⟨rfl, _⟩ | ⟨blk, off, cap, rfl, _⟩
  · exact ⟨_, _, _, rfl⟩
  · exact ⟨_, _, _, rfl⟩

/-- a slice whose array is one of bytes -/
def TyU (w : World) (v : Value) : Prop := ∀ g o n c, v = .slice (some ⟨g, o, none⟩) n c → ∃ cs fz, w.heap[g]? = some (.cells cs 5 fz)
theorem TyU.gr {a b : World} {v : Value} (h : TyU a v) (hg : Gr a b) : TyU b v := fun g o n c e => by
  obtain ⟨cs, fz, h1⟩ := h g o n c e
  exact ⟨cs, fz, hg.blk h1⟩
theorem TyU.set {a : World} {v : Value} (h : TyU a v) (B i : Nat) (u : Value) : TyU (a.setCell ⟨B, i, none⟩ u) v := fun g o n c e => by
  obtain ⟨cs, fz, h1⟩ := h g o n c e
  by_cases hB : B = g
  · subst hB
    exact ⟨_, fz, heap_set h1 i u⟩
  · exact ⟨cs, fz, heap_set_other h1 _ _ hB⟩
theorem Own.tyU {a : World} {N : Nat} {v : Value} {l : List UInt8} (h : Own a N v l) : TyU a v := fun g o n c e => by
  rcases h.form with ⟨h1, h2⟩ | ⟨g', cap, cur, h1, h2, h3, h4, h5, h6, h7⟩
  · rw [h1] at e; cases e
  · rw [h1] at e
    cases e
    exact ⟨_, _, h3⟩
theorem TyU.nil (w : World) : TyU w (.slice none 0 0) := fun g o n c e => by cases e

/-- A reader, of whichever type: l is left; bad. -/
structure Rdr (T : TypeId) (B : Nat) (s : St) (w : World) : Prop where
  h : ∃ v, w.heap[B]? = some (.cells #[v, .bool s.2] T) ∧ Rd w v s.1
  ty : ∀ v b, w.heap[B]? = some (.cells #[v, .bool b] T) → TyU w v
theorem Rdr.gr {T : TypeId} {B : Nat} {s : St} {a b : World} (h : Rdr T B s a) (hg : Gr a b) : Rdr T B s b := by
  obtain ⟨⟨v, h1, h2⟩, h3⟩ := h
  refine ⟨⟨v, hg.blk h1, h2.gr hg⟩, fun v' b' h' => ?_⟩
  rw [hg.blk h1] at h'
  simp only [Option.some.injEq, Obj.cells.injEq, Array.mk.injEq, List.cons.injEq] at h'
  obtain ⟨⟨rfl, _⟩, _⟩ := h'
  exact (h3 _ _ h1).gr hg
theorem Rdr.lt {T : TypeId} {B : Nat} {s : St} {a : World} (h : Rdr T B s a) : B < a.heap.size := by
  obtain ⟨⟨v, h1, h2⟩, h3⟩ := h
  exact (Array.getElem?_eq_some_iff.1 h1).1
theorem Rd.set {w : World} {v u : Value} {l : List UInt8} (h : Rd w v l) {B i : Nat} {q : Option Addr} {n c : Nat} {b : Bool} {T : TypeId} (hB : w.heap[B]? = some (.cells #[.slice q n c, .bool b] T)) : Rd (w.setCell ⟨B, i, none⟩ u) v l := by
  rcases h with h | ⟨blk, off, cap, h1, h2, h3, h4, h5⟩
  · exact .inl h
  · refine .inr ⟨blk, off, cap, h1, h2, h3, by simpa using h4, fun j hj => ?_⟩
    have hc := h5 j hj
    have hne : B ≠ blk := by
      rintro rfl
      simp only [World.cell?, hB] at hc
      rcases hoj : off + j with _ | _ | k <;> simp [hoj] at hc
    obtain ⟨o, ho⟩ : ∃ o, w.heap[blk]? = some o := ⟨_, Array.getElem?_eq_getElem h4⟩
    have := heap_set_other ho ⟨B, i, none⟩ u hne
    simp only [World.cell?, ho, this] at hc ⊢
    exact hc
theorem Rdr.mk' {T : TypeId} {B : Nat} {s : St} {w : World} {v : Value} (h1 : w.heap[B]? = some (.cells #[v, .bool s.2] T)) (h2 : Rd w v s.1) (h3 : TyU w v) : Rdr T B s w := by
  refine ⟨⟨v, h1, h2⟩, fun v' b' h' => ?_⟩
  rw [h1] at h'
  simp only [Option.some.injEq, Obj.cells.injEq, Array.mk.injEq, List.cons.injEq] at h'
  obtain ⟨⟨rfl, _⟩, _⟩ := h'
  exact h3
theorem Rdr.setB {T : TypeId} {B : Nat} {s : St} {w : World} (h : Rdr T B s w) (b : Bool) : Rdr T B (s.1, b) (w.setCell ⟨B, 1, none⟩ (.bool b)) := by
  obtain ⟨⟨v, h1, h2⟩, h3⟩ := h
  have h3 := h3 _ _ h1
  obtain ⟨q, n, c, rfl⟩ := h2.slice
  refine Rdr.mk' ?_ (h2.set h1) (h3.set _ _ _)
  have := heap_set h1 1 (.bool b)
  simpa using this
theorem Rdr.setS {T : TypeId} {B : Nat} {s : St} {w : World} (h : Rdr T B s w) {N : Nat} {v : Value} {l : List UInt8} (hr : Own w N v l) : Rdr T B (l, s.2) (w.setCell ⟨B, 0, none⟩ v) := by
  obtain ⟨⟨v0, h1, h2⟩, _⟩ := h
  obtain ⟨q, n, c, rfl⟩ := h2.slice
  refine Rdr.mk' ?_ (hr.rd.set h1) (hr.tyU.set _ _ _)
  have := heap_set h1 0 v
  simpa using this
theorem Rdr.new (T : TypeId) {w : World} {v : Value} {l : List UInt8} (h : Rd w v l) (h3 : TyU w v) {n : Nat} (hn : n = w.heap.size) : Rdr T n (l, false) (w.alloc (.cells #[v, .bool false] T)) := by
  subst hn
  exact Rdr.mk' (heap_alloc_new _ _) (h.gr ((Gr.refl w).alloc _)) (h3.gr ((Gr.refl w).alloc _))

theorem Rd.setO {w : World} {v u : Value} {l : List UInt8} (h : Rd w v l) {S i : Nat} {c : Array Value} {t : TypeId} {fz : Nat × Nat} (hS : w.heap[S]? = some (.cells c t fz)) (hc : ∀ (j : Nat) (z : Int), c[j]? ≠ some (.int .u8 z)) : Rd (w.setCell ⟨S, i, none⟩ u) v l := by
  rcases h with h | ⟨blk, off, cap, h1, h2, h3, h4, h5⟩
  · exact .inl h
  · refine .inr ⟨blk, off, cap, h1, h2, h3, by simpa using h4, fun j hj => ?_⟩
    have hx := h5 j hj
    have hne : S ≠ blk := by
      rintro rfl
      simp only [World.cell?, hS] at hx
      exact hc _ _ (by simpa using hx)
    obtain ⟨o, ho⟩ : ∃ o, w.heap[blk]? = some o := ⟨_, Array.getElem?_eq_getElem h4⟩
    have := heap_set_other ho ⟨S, i, none⟩ u hne
    simp only [World.cell?, ho, this] at hx ⊢
    exact hx
theorem Rdr.setO {T : TypeId} {B : Nat} {s : St} {w : World} (h : Rdr T B s w) {S i : Nat} {u : Value} {c : Array Value} {t : TypeId} {fz : Nat × Nat} (hS : w.heap[S]? = some (.cells c t fz)) (hne : S ≠ B) (hc : ∀ (j : Nat) (z : Int), c[j]? ≠ some (.int .u8 z)) : Rdr T B s (w.setCell ⟨S, i, none⟩ u) := by
  obtain ⟨⟨v, h1, h2⟩, h3⟩ := h
  exact Rdr.mk' (heap_set_other h1 _ _ hne) (h2.setO hS hc) ((h3 _ _ h1).set _ _ _)
theorem Fx.setNew {w a : World} {B S : Nat} (h : Fx B w a) (hS : w.heap.size ≤ S) (i : Nat) (u : Value) : Fx B w (a.setCell ⟨S, i, none⟩ u) :=
  ⟨h.os, h.tape, h.output, by simpa using h.size, fun k o ho hb => heap_set_other (h.blk k o ho hb) _ _ (by
    have := (Array.getElem?_eq_some_iff.1 ho).1
    simp only
    omega)⟩
theorem noU8_ints2 (a b : Int) : ∀ (j : Nat) (z : Int), (#[Value.int .i64 a, Value.int .i64 b] : Array Value)[j]? ≠ some (.int .u8 z) := by
  intro j z
  rcases j with _ | _ | j <;> simp

theorem rnum {B : Nat} {s : St} {w : World} (h : Rdr 170 B s w) (hlen : s.1.length ≤ 140737488355320) :
    Calls Tryz.prog 106 #[.pointer (some ⟨B, 0, none⟩)] w fun e w' => e = .returned (.int .i64 (valN s)) ∧ Rdr 170 B (nextN s) w' ∧ Fx B w w' := by
  have H := Lib.hid h
  have hlt := h.lt
  obtain ⟨⟨v, hv, hr⟩, _⟩ := h
  obtain ⟨k_0, k_1, g_0, g_1, l_0⟩ := blk2 hv
  have HV := Lib.hid hv
  have HT := Lib.hid (takeNum_any hr (by omega))
  have HN : Hid (nextN s = ((takeN s.1).2.1, s.2 || decide ((takeN s.1).2.2 ≠ 0))) := Lib.hid rfl
  have HF : Hid (valN s = (takeN s.1).1) := Lib.hid rfl
  clear hv hr
  generalize (takeN s.1).2.2 = q at HT HN
  by_cases h0 : q = 0
  · subst h0
    go_enter Tryz.func106, Tryz.ntmps106
    go_wp2_with (go_at_call 123; refine HT.out.mono ?_; rintro e w1 ⟨v1, rfl, hown, hg⟩; (have H1 := Lib.hid (H.out.gr hg)); obtain ⟨p, n, c, rfl⟩ := hown.rd.slice; (have hv1 := hg.blk HV.out); obtain ⟨k_0, k_1, g_0, g_1, l_0⟩ := blk2 hv1; clear hv1)
    go_ret
    exact ⟨by rw [HF.out]; rfl, by rw [HN.out]; simpa using H1.out.setS hown, (Fx.gr hg B).trans (Fx.set 0 _)⟩
  · have hb : (q != 0) = true := by simpa using h0
    have H0 := Lib.hid h0
    clear h0
    go_enter Tryz.func106, Tryz.ntmps106
    go_wp2_with (go_at_call 123; refine HT.out.mono ?_; rintro e w1 ⟨v1, rfl, hown, hg⟩; (have H1 := Lib.hid (H.out.gr hg)); obtain ⟨p, n, c, rfl⟩ := hown.rd.slice; (have hv1 := hg.blk HV.out); obtain ⟨k_0, k_1, g_0, g_1, l_0⟩ := blk2 hv1; clear hv1)
    go_ret
    exact ⟨by rw [HF.out]; rfl, by rw [HN.out]; simpa [H0.out] using (H1.out.setS hown).setB true, ((Fx.gr hg B).trans (Fx.set 0 _)).trans (Fx.set 1 _)⟩

theorem rstr {B : Nat} {s : St} {w : World} (h : Rdr 170 B s w) (hlen : s.1.length ≤ 140737488355320) :
    Calls Tryz.prog 107 #[.pointer (some ⟨B, 0, none⟩)] w fun e w' => e = .returned (.string ⟨(valS s).toArray⟩) ∧ Rdr 170 B (nextS s) w' ∧ Fx B w w' := by
  have H := Lib.hid h
  have hlt := h.lt
  obtain ⟨⟨v, hv, hr⟩, _⟩ := h
  obtain ⟨k_0, k_1, g_0, g_1, l_0⟩ := blk2 hv
  have HV := Lib.hid hv
  have HT := Lib.hid (takeStr_any hr (by omega))
  have HN : Hid (nextS s = ((takeS s.1).2.1, s.2 || decide ((takeS s.1).2.2 ≠ 0))) := Lib.hid rfl
  have HF : Hid (valS s = (takeS s.1).1) := Lib.hid rfl
  clear hv hr
  generalize (takeS s.1).2.2 = q at HT HN
  by_cases h0 : q = 0
  · subst h0
    go_enter Tryz.func107, Tryz.ntmps107
    go_wp2_with (go_at_call 124; refine HT.out.mono ?_; rintro e w1 ⟨v1, rfl, hown, hg⟩; (have H1 := Lib.hid (H.out.gr hg)); obtain ⟨p, n, c, rfl⟩ := hown.rd.slice; (have hv1 := hg.blk HV.out); obtain ⟨k_0, k_1, g_0, g_1, l_0⟩ := blk2 hv1; clear hv1)
    go_ret
    exact ⟨by rw [HF.out]; rfl, by rw [HN.out]; simpa using H1.out.setS hown, (Fx.gr hg B).trans (Fx.set 0 _)⟩
  · have hb : (q != 0) = true := by simpa using h0
    have H0 := Lib.hid h0
    clear h0
    go_enter Tryz.func107, Tryz.ntmps107
    go_wp2_with (go_at_call 124; refine HT.out.mono ?_; rintro e w1 ⟨v1, rfl, hown, hg⟩; (have H1 := Lib.hid (H.out.gr hg)); obtain ⟨p, n, c, rfl⟩ := hown.rd.slice; (have hv1 := hg.blk HV.out); obtain ⟨k_0, k_1, g_0, g_1, l_0⟩ := blk2 hv1; clear hv1)
    go_ret
    exact ⟨by rw [HF.out]; rfl, by rw [HN.out]; simpa [H0.out] using (H1.out.setS hown).setB true, ((Fx.gr hg B).trans (Fx.set 0 _)).trans (Fx.set 1 _)⟩

theorem rflag {B : Nat} {s : St} {w : World} (h : Rdr 170 B s w) (hlen : s.1.length ≤ 140737488355320) :
    Calls Tryz.prog 111 #[.pointer (some ⟨B, 0, none⟩)] w fun e w' => e = .returned (.bool (valF s)) ∧ Rdr 170 B (nextF s) w' ∧ Fx B w w' := by
  have hlt := h.lt
  have HR := Lib.hid (rnum h hlen)
  have HF : Hid (valF s = decide (valN s = 1)) := Lib.hid rfl
  have HN : Hid (nextF s = ((nextN s).1, (nextN s).2 || decide (1 < valN s))) := Lib.hid rfl
  clear h
  generalize valN s = n at HR HF HN
  generalize nextN s = s' at HR HN
  obtain ⟨l', b'⟩ := s'
  cases b' with
  | false =>
    go_enter Tryz.func111, Tryz.ntmps111
    go_wp2_with (go_at_call 106; refine HR.out.mono ?_; rintro e w1 ⟨rfl, hr1, hF1⟩; (have H1 := Lib.hid hr1); obtain ⟨⟨v1, hv1, _⟩, _⟩ := hr1; obtain ⟨k_0, k_1, g_0, g_1, l_0⟩ := blk2 hv1; clear hv1)
    go_ret
    exact ⟨by rw [HF.out]; exact ret_bool (by rw [Bool.eq_iff_iff]; simp; omega), by rw [HN.out]; have := H1.out.setB (decide (1 < n)); rw [show decide ((1 : Int) < (n : Int)) = decide (1 < n) by rw [decide_eq_decide]; omega]; simpa using this, hF1.trans (Fx.set 1 _)⟩
  | true =>
    go_enter Tryz.func111, Tryz.ntmps111
    go_wp2_with (go_at_call 106; refine HR.out.mono ?_; rintro e w1 ⟨rfl, hr1, hF1⟩; (have H1 := Lib.hid hr1); obtain ⟨⟨v1, hv1, _⟩, _⟩ := hr1; obtain ⟨k_0, k_1, g_0, g_1, l_0⟩ := blk2 hv1; clear hv1)
    go_ret
    exact ⟨by rw [HF.out]; exact ret_bool (by rw [Bool.eq_iff_iff]; simp; omega), by rw [HN.out]; have := H1.out.setB true; simpa using this, hF1.trans (Fx.set 1 _)⟩

theorem rstamp {B : Nat} {s : St} {w : World} (h : Rdr 170 B s w) (hlen : s.1.length ≤ 140737488355320) :
    Calls Tryz.prog 108 #[.pointer (some ⟨B, 0, none⟩)] w fun e w' => e = .returned (.agg #[.int .i64 (valN s), .int .i64 (valN (nextN s))]) ∧ Rdr 170 B (nextN (nextN s)) w' ∧ Fx B w w' := by
  have hlt := h.lt
  have hl2 := nextN_length s
  have H := Lib.hid h
  clear h
  go_enter Tryz.func108, Tryz.ntmps108
  go_wp2_with fail
  refine (rnum (H.out.gr (by repeat (first | (with_reducible exact Gr.refl _) | (with_reducible assumption) | (with_reducible refine Gr.alloc ?_ _) | (with_reducible refine Gr.drew ?_) | (with_reducible refine Gr.drewN ?_ _) | (with_reducible refine Gr.trans ?_ (by assumption)) | (with_reducible refine Gr.setCell ?_ (by first | exact Nat.le_refl _ | omega | (simp; done) | (simp; omega)) _)))) hlen).mono ?_
  rintro e w1 ⟨rfl, hr1, hF1⟩
  have HR1 := Lib.hid hr1
  have hS1 : w1.heap[w.heap.size]? = some (.cells #[.int .i64 0, .int .i64 0] 26) := hF1.blk _ _ (heap_alloc_new _ _) (by omega)
  obtain ⟨k_0, k_1, g_0, g_1, l_0⟩ := blk2 hS1
  have HS1 := Lib.hid hS1
  clear hr1 hS1
  go_wp2_with fail
  refine (rnum HR1.out (by omega)).mono ?_
  rintro e w2 ⟨rfl, hr2, hF2⟩
  have HR2 := Lib.hid hr2
  have hS2 : w2.heap[w.heap.size]? = some (.cells #[.int .i64 0, .int .i64 0] 26) := hF2.blk _ _ HS1.out (by omega)
  clear k_0 k_1 g_0 g_1 l_0
  obtain ⟨k_0, k_1, g_0, g_1, l_0⟩ := blk2 hS2
  have HS2 := Lib.hid hS2
  clear hr2 hS2
  go_wp2
  obtain ⟨q0, q1, _, _, _⟩ := blk2 (by simpa using heap_set (heap_set HS2.out 0 (.int .i64 (valN s))) 1 (.int .i64 (valN (nextN s))))
  refine bodyPost_ret (v := .agg #[.int .i64 (valN s), .int .i64 (valN (nextN s))]) (by simp [results, Tryz.results108, go_sem, q0, q1]) rfl ⟨rfl, ?_, ?_⟩
  · have h1 := HR2.out.setO (i := 0) (u := .int .i64 (valN s)) HS2.out (by omega) (noU8_ints2 _ _)
    exact h1.setO (i := 1) (by simpa using heap_set HS2.out 0 (.int .i64 (valN s))) (by omega) (noU8_ints2 _ _)
  · exact (((((Fx.gr (by repeat (first | (with_reducible exact Gr.refl _) | (with_reducible assumption) | (with_reducible refine Gr.alloc ?_ _) | (with_reducible refine Gr.drew ?_) | (with_reducible refine Gr.drewN ?_ _) | (with_reducible refine Gr.trans ?_ (by assumption)) | (with_reducible refine Gr.setCell ?_ (by first | exact Nat.le_refl _ | omega | (simp; done) | (simp; omega)) _))) B).trans hF1).trans hF2).setNew (Nat.le_refl _) 0 _).setNew (Nat.le_refl _) 1 _)

theorem rdone {T : TypeId} (hT : T = 170) {B : Nat} {s : St} {w : World} (h : Rdr T B s w) (x : Int) (hlen : s.1.length ≤ 140737488355320) :
    Calls Tryz.prog 112 #[.pointer (some ⟨B, 0, none⟩), .int .i64 x] w fun e w' => e = .returned (.int .i64 (offE s x)) ∧ w = w' := by
  have hlt := h.lt
  obtain ⟨l, b⟩ := s
  obtain ⟨⟨v, hv, hr⟩, _⟩ := h
  obtain ⟨k_0, k_1, g_0, g_1, l_0⟩ := blk2 hv
  have hln := len_rd (ty := 3) hr
  clear hr hv
  cases b with
  | true =>
    have ho : offE (l, true) x = 4 := by simp [offE]
    rw [ho]
    go_enter Tryz.func112, Tryz.ntmps112
    go_wp2
    go_ret
    exact ⟨rfl, rfl⟩
  | false =>
    cases l with
    | cons c t =>
      have ho : offE (c :: t, false) x = 4 := by simp [offE]
      rw [ho]
      have hb : decide ((0 : Int) < ((c :: t).length : Int)) = true := by simp
      go_enter Tryz.func112, Tryz.ntmps112
      go_wp2
      all_goals (go_ret; exact ⟨rfl, rfl⟩)
    | nil =>
      by_cases hx : x = 0
      · subst hx
        have ho : offE ([], false) 0 = 0 := by simp [offE]
        rw [ho]
        go_enter Tryz.func112, Tryz.ntmps112
        go_wp2
        go_ret
        exact ⟨rfl, rfl⟩
      · have ho : offE ([], false) x = 4 := by simp [offE, hx]
        have hb : (x != 0) = true := by simpa using hx
        rw [ho]
        go_enter Tryz.func112, Tryz.ntmps112
        go_wp2
        go_ret
        exact ⟨rfl, rfl⟩
end Go.Proofs.YthgecojbggoniaaGreatDoor
namespace Go.Proofs.YthgecojbggoniaaGreatDoor
open Go.RowKit
set_option maxRecDepth 100000
set_option linter.unusedVariables false
set_option linter.unusedSimpArgs false

def stampW (p : Int × Int) : List UInt8 := numW p.1 ++ numW p.2
def okV (value : List UInt8) (is : Bool) : Bool := decide (value.length ≤ 64) && (is || value.isEmpty)
def versionW (value : List UInt8) (is : Bool) : List UInt8 := if okV value is = true then (if is = true then numW 1 ++ strW value else numW 0) else []
def versionE (value : List UInt8) (is : Bool) : Int := if okV value is = true then 0 else 2
def stampsCells (ps : List (Int × Int)) : List Value := ps.flatMap fun p => [.int .i64 p.1, .int .i64 p.2]

theorem stampsCells_get : ∀ (ps : List (Int × Int)) (k : Nat) (h : k < ps.length), (stampsCells ps)[k * 2]? = some (.int .i64 ps[k].1) ∧ (stampsCells ps)[k * 2 + 1]? = some (.int .i64 ps[k].2)
  | p :: ps, 0, h => by simp [stampsCells]
  | p :: ps, k + 1, h => by
    have := stampsCells_get ps k (by simpa using h)
    simp only [stampsCells, List.flatMap_cons] at this ⊢
    simpa [show (k + 1) * 2 = k * 2 + 1 + 1 by omega] using this
theorem stampCheck_any (a b : Int) (w : World) :
    Calls Tryz.prog 61 #[.agg #[.int .i64 a, .int .i64 b]] w fun e w' => e = .returned (.int .i64 (if mayB a b = true then 0 else 9)) ∧ Gr w w' := by
  by_cases h : mayB a b = true
  · have hm := h
    simp [mayB] at hm
    rw [if_pos h]
    go_enter Tryz.func61, Tryz.ntmps61
    go_wp2
    go_ret
    exact ⟨rfl, (by repeat (first | (with_reducible exact Gr.refl _) | (with_reducible assumption) | (with_reducible refine Gr.alloc ?_ _) | (with_reducible refine Gr.drew ?_) | (with_reducible refine Gr.drewN ?_ _) | (with_reducible refine Gr.trans ?_ (by assumption)) | (with_reducible refine Gr.setCell ?_ (by first | exact Nat.le_refl _ | omega | (simp; done) | (simp; omega)) _)))⟩
  · have hm := h
    simp [mayB] at hm
    rw [if_neg h]
    go_enter Tryz.func61, Tryz.ntmps61
    go_wp2
    all_goals first | (exfalso; omega) | (go_ret; exact ⟨rfl, (by repeat (first | (with_reducible exact Gr.refl _) | (with_reducible assumption) | (with_reducible refine Gr.alloc ?_ _) | (with_reducible refine Gr.drew ?_) | (with_reducible refine Gr.drewN ?_ _) | (with_reducible refine Gr.trans ?_ (by assumption)) | (with_reducible refine Gr.setCell ?_ (by first | exact Nat.le_refl _ | omega | (simp; done) | (simp; omega)) _)))⟩)
theorem refStampCheck_any (a b : Int) (w : World) :
    Calls Tryz.prog 40 #[.agg #[.int .i64 a, .int .i64 b]] w fun e w' => e = .returned (.int .i64 (if mayB a b = true then 0 else 9)) ∧ Gr w w' := by
  by_cases h : mayB a b = true
  · have hm := h
    simp [mayB] at hm
    rw [if_pos h]
    go_enter Tryz.func40, Tryz.ntmps40
    go_wp2
    go_ret
    exact ⟨rfl, (by repeat (first | (with_reducible exact Gr.refl _) | (with_reducible assumption) | (with_reducible refine Gr.alloc ?_ _) | (with_reducible refine Gr.drew ?_) | (with_reducible refine Gr.drewN ?_ _) | (with_reducible refine Gr.trans ?_ (by assumption)) | (with_reducible refine Gr.setCell ?_ (by first | exact Nat.le_refl _ | omega | (simp; done) | (simp; omega)) _)))⟩
  · have hm := h
    simp [mayB] at hm
    rw [if_neg h]
    go_enter Tryz.func40, Tryz.ntmps40
    go_wp2
    all_goals first | (exfalso; omega) | (go_ret; exact ⟨rfl, (by repeat (first | (with_reducible exact Gr.refl _) | (with_reducible assumption) | (with_reducible refine Gr.alloc ?_ _) | (with_reducible refine Gr.drew ?_) | (with_reducible refine Gr.drewN ?_ _) | (with_reducible refine Gr.trans ?_ (by assumption)) | (with_reducible refine Gr.setCell ?_ (by first | exact Nat.le_refl _ | omega | (simp; done) | (simp; omega)) _)))⟩)

theorem refNumb_any (n : Int) (w : World) :
    Calls Tryz.prog 77 #[.int .i64 n] w fun e w' => ∃ v, e = .returned v ∧ Own w' w.heap.size v (numW n) ∧ Gr w w' := by
  go_enter Tryz.func77, Tryz.ntmps77
  go_wp2_with (go_at_call 102; refine (refNum_any _ _).mono ?_; rintro e w1 ⟨v, rfl, hown, hg⟩)
  go_ret
  exact ⟨v, rfl, hown, hg⟩
theorem refStrb_any (s : ByteArray) (w : World) :
    Calls Tryz.prog 78 #[.string s] w fun e w' => ∃ v, e = .returned v ∧ Own w' w.heap.size v (strW s.data.toList) ∧ Gr w w' := by
  go_enter Tryz.func78, Tryz.ntmps78
  go_wp2_with (go_at_call 103; refine (refStr_any _ _).mono ?_; rintro e w1 ⟨v, rfl, hown, hg⟩)
  go_ret
  exact ⟨v, rfl, hown, hg⟩

end Go.Proofs.YthgecojbggoniaaGreatDoor
