/- Layer 11's writer: a pointer to a block of one cell, a slice of the call's own. -/
import Derived.Test.YtpnojkgdjkncbaaDoorCelB
namespace Go.Proofs.YtpnojkgdjkncbaaDoor
open Go.RowKit
set_option maxRecDepth 100000
set_option linter.unusedVariables false
set_option linter.unusedSimpArgs false

/-- Nothing has turned but block B and rows of bytes at or above N. -/
structure Fb (N B : Nat) (w w' : World) : Prop where
  os : w'.os = w.os
  tape : w'.tape = w.tape
  output : w'.output = w.output
  size : w.heap.size ≤ w'.heap.size
  blk : ∀ k o, w.heap[k]? = some o → k ≠ B → (k < N ∨ ∀ c f, o ≠ .cells c 5 f) → w'.heap[k]? = some o

theorem Fb.refl (N B : Nat) (w : World) : Fb N B w w := ⟨rfl, rfl, rfl, Nat.le_refl _, fun _ _ h _ _ => h⟩
theorem Fb.trans {N B : Nat} {a b c : World} (h : Fb N B a b) (k : Fb N B b c) : Fb N B a c :=
  ⟨k.os.trans h.os, k.tape.trans h.tape, k.output.trans h.output, Nat.le_trans h.size k.size, fun i o ho hb hx => k.blk i o (h.blk i o ho hb hx) hb hx⟩
theorem Fb.gr {a b : World} (h : Gr a b) (N B : Nat) : Fb N B a b := ⟨h.b.os, h.b.tape, h.b.output, h.b.size, fun i o ho _ _ => h.blk ho⟩
theorem Fb.grown {a b : World} {N B : Nat} {v : Value} {l : List UInt8} (hown : Own a N v l) (h : a.grownBy b v.ownBlock) : Fb N B a b := by
  refine ⟨h.os, h.tape, h.output, h.size, fun k o ho hb hx => ?_⟩
  have hk : k < a.heap.size := (Array.getElem?_eq_some_iff.1 ho).1
  by_cases he : v.ownBlock = some k
  · exfalso
    rcases hown.form with ⟨rfl, _⟩ | ⟨g, cap, cur, rfl, h2, h3, _⟩
    · simp [Value.ownBlock] at he
    · simp [Value.ownBlock] at he
      subst he
      rw [h3] at ho
      rcases hx with hx | hx
      · omega
      · exact hx cur (0, 0) (Option.some.inj ho).symm
  · rw [h.block k hk (fun e => he e.symm)]; exact ho
theorem Fb.set {a : World} {N B : Nat} (u : Value) : Fb N B a (a.setCell ⟨B, 0, none⟩ u) :=
  ⟨rfl, rfl, rfl, by simp, fun k o ho hb _ => heap_set_other ho _ _ (fun e => hb e.symm)⟩
theorem Fb.toGr {w0 a b : World} {N B : Nat} (hg : Gr w0 a) (h : Fb N B a b) (hN : w0.heap.size ≤ N) (hB : w0.heap.size ≤ B) : Gr w0 b := by
  refine ⟨⟨h.os.trans hg.b.os, h.tape.trans hg.b.tape, h.output.trans hg.b.output, Nat.le_trans hg.b.size h.size, fun k hk => ?_⟩⟩
  have hk2 : k < w0.heap.size := hk
  have h1 := hg.b.block k hk
  rw [← h1]
  have hka : k < a.heap.size := Nat.lt_of_lt_of_le hk2 hg.b.size
  rw [h.blk k a.heap[k] (Array.getElem?_eq_getElem hka) (by omega) (.inl (by omega)), Array.getElem?_eq_getElem hka]

theorem Own.slice {a : World} {N : Nat} {v : Value} {l : List UInt8} (h : Own a N v l) : ∃ (q : Option Addr) (n c : Nat), v = .slice q n c := by
  rcases h.form with ⟨rfl, _⟩ | ⟨g, cap, cur, rfl, _⟩
  · exact ⟨_, _, _, rfl⟩
  · exact ⟨_, _, _, rfl⟩

/-- A writer that has written L. -/
structure Wri (N B : Nat) (L : List UInt8) (w : World) : Prop where
  le : N ≤ B
  h : ∃ v, w.heap[B]? = some (.cells #[v] 75) ∧ Own w N v L
theorem Wri.gr {N B : Nat} {L : List UInt8} {a b : World} (h : Wri N B L a) (hg : Gr a b) : Wri N B L b := by
  obtain ⟨h0, v, h1, h2⟩ := h
  exact ⟨h0, v, hg.blk h1, h2.gr hg⟩
theorem Wri.lt {N B : Nat} {L : List UInt8} {a : World} (h : Wri N B L a) : B < a.heap.size := by
  obtain ⟨h0, v, h1, h2⟩ := h
  exact (Array.getElem?_eq_some_iff.1 h1).1
theorem Wri.new (w : World) {N : Nat} (hN : N ≤ w.heap.size) : Wri N w.heap.size [] (w.alloc (.cells #[.slice none 0 0] 75)) :=
  ⟨hN, _, heap_alloc_new _ _, Own.nil _ _⟩
/-- behind an append of x to the writer's bytes and the store of what came of it -/
theorem Wri.put {N B : Nat} {L x : List UInt8} {w w' : World} {v v' : Value} (hB : N ≤ B) (hv : w.heap[B]? = some (.cells #[v] 75)) (hown : Own w N v L) (hown' : Own w' N v' (L ++ x)) (hgb : w.grownBy w' v.ownBlock) :
    w'.heap[B]? = some (.cells #[v] 75) ∧ Wri N B (L ++ x) (w'.setCell ⟨B, 0, none⟩ v') ∧ Fb N B w (w'.setCell ⟨B, 0, none⟩ v') := by
  have h1 : w'.heap[B]? = some (.cells #[v] 75) := by
    have hk : B < w.heap.size := (Array.getElem?_eq_some_iff.1 hv).1
    rw [hgb.block B hk (fun e => ?_)]
    · exact hv
    · rcases hown.form with ⟨rfl, _⟩ | ⟨g, cap, cur, rfl, h2, h3, _⟩
      · simp [Value.ownBlock] at e
      · simp [Value.ownBlock] at e
        subst e
        rw [h3] at hv
        simp at hv
  refine ⟨h1, ⟨hB, v', ?_, ?_⟩, (Fb.grown hown hgb).trans (Fb.set v')⟩
  · have := heap_set h1 0 v'
    simpa using this
  · rcases hown'.form with ⟨rfl, e⟩ | ⟨g, cap, cur, rfl, h2, h3, h4, h5, h6, h7⟩
    · rw [e]; exact Own.nil _ _
    · refine ⟨by simp, .inr ⟨g, cap, cur, by rw [nums_length], h2, ?_, by rw [nums_length]; exact h4, h5, by simpa using h6, by rw [nums_length]; simpa using h7⟩⟩
      refine heap_set_other h3 _ _ (fun e => ?_)
      simp only at e
      subst e
      rw [h1] at h3
      simp at h3

theorem numT_length {n : Nat} (h : n ≤ 9007199254740991) : (numT n).length ≤ 8 := by
  have := numD_le7 h
  simp [numT]; omega
theorem numW_length (n : Int) : (numW n).length ≤ 8 := by
  unfold numW
  split
  · exact numT_length (by omega)
  · simp
theorem numWs_length : ∀ ns : List Int, (ns.flatMap numW).length ≤ 8 * ns.length
  | [] => by simp
  | n :: ns => by
    have := numW_length n
    have := numWs_length ns
    simp at this ⊢; omega
theorem numWs_take (L : List UInt8) (ns : List Int) (k : Nat) (h : k < ns.length) : L ++ (ns.take (k + 1)).flatMap numW = (L ++ (ns.take k).flatMap numW) ++ numW ns[k] := by
  rw [List.take_succ_eq_append_getElem h, List.flatMap_append]
  simp

set_option maxHeartbeats 2000000 in
theorem wnum {N B : Nat} {L : List UInt8} {w : World} (h : Wri N B L w) (bl n c : Nat) (ns : List Int) (hbl : w.heap[bl]? = some (.cells (ns.map (Value.int .i64)).toArray 3)) (hn : ns.length = n) (hlen : L.length + 8 * n ≤ 70368744177664) :
    Calls Tryd.prog 53 #[.pointer (some ⟨B, 0, none⟩), .slice (some ⟨bl, 0, none⟩) n c] w fun e w' => e = .returned (.tuple #[]) ∧ Wri N B (L ++ ns.flatMap numW) w' ∧ Fb N B w w' := by
  subst hn
  have hbB : bl ≠ B := by
    rintro rfl
    obtain ⟨_, v, h1, _⟩ := h
    rw [hbl] at h1
    simp at h1
  go_enter Tryd.func53, Tryd.ntmps53
  go_wp2
  go_loopw [10] (fun i wr => ∃ k : Nat, k ≤ ns.length ∧ i = .int .i64 k ∧ Wri N B (L ++ (ns.take k).flatMap numW) wr ∧ Fb N B w wr) (fun i _ => ns.length - (intOf i).toNat)
  case atStart => exact ⟨0, Nat.zero_le _, rfl, by simpa using h, Fb.refl _ _ _⟩
  case round =>
    obtain ⟨k, hk, rfl, hW, hF⟩ := hrel
    by_cases hlt : k < ns.length
    · have hbl2 := hF.blk bl _ hbl hbB (.inr (by simp))
      have hcell : wr.cell? ⟨bl, k, none⟩ = some (.int .i64 ns[k]) := by
        simp only [World.cell?, hbl2]
        simp [hlt]
      obtain ⟨hB, v, hv, hown⟩ := hW
      have hL : (L ++ (ns.take k).flatMap numW).length ≤ L.length + 8 * ns.length := by
        have := numWs_length (ns.take k)
        simp at this ⊢; omega
      have hn8 := numW_length ns[k]
      clear hbl hbl2
      go_wp2_with (first
        | (go_at_call 90; refine (num_any _ _).mono ?_; rintro e w1 ⟨v1, rfl, hown1, hg1⟩; have hv1 := hg1.blk hv; obtain ⟨k_0, g_0, l_0⟩ := blk1 hv1; have hown1' := hown.gr hg1)
        | (at_builtin; refine app_rd (N := N) (by omega) (by rfl) (.tmp 23) (.tmp 24) (by rfl) _ _ (by rfl) (by rfl) hown1' hown1.rd (by omega) ?_; intro v2 w2 hown2 hgb2; obtain ⟨q2, n2, c2, rfl⟩ := hown2.slice; have hput := Wri.put hB hv1 hown1' hown2 hgb2; obtain ⟨p_0, q_0, m_0⟩ := blk1 hput.1))
      go_roundw
      case rel => exact ⟨k + 1, by omega, by go_num, by rw [numWs_take L ns k hlt]; exact hput.2.1, (hF.trans (Fb.gr hg1 _ _)).trans hput.2.2⟩
      case measure => simp [intOf]; omega
    · obtain rfl : k = ns.length := by omega
      rw [List.take_length] at hW
      go_wp2
      go_end0
      exact ⟨rfl, hW, hF⟩

theorem strW_length (s : List UInt8) : (strW s).length ≤ 72 := by
  unfold strW
  split
  · have := numT_length (n := s.length) (by omega)
    simp; omega
  · simp

theorem wstr {N B : Nat} {L : List UInt8} {w : World} (h : Wri N B L w) (s : ByteArray) (hlen : L.length + 72 ≤ 70368744177664) :
    Calls Tryd.prog 61 #[.pointer (some ⟨B, 0, none⟩), .string s] w fun e w' => e = .returned (.tuple #[]) ∧ Wri N B (L ++ strW s.data.toList) w' ∧ Fb N B w w' := by
  have h72 := strW_length s.data.toList
  have hlt := h.lt
  obtain ⟨hB, v, hv, hown⟩ := h
  go_enter Tryd.func61, Tryd.ntmps61
  go_wp2_with (first
    | (go_at_call 92; refine (str_any _ _).mono ?_; rintro e w1 ⟨v1, rfl, hown1, hg1⟩; have hv1 := hg1.blk hv; obtain ⟨k_0, g_0, l_0⟩ := blk1 hv1; have hown1' := hown.gr hg1)
    | (at_builtin; refine app_rd (N := N) (by omega) (by rfl) (.tmp 15) (.tmp 16) (by rfl) _ _ (by rfl) (by rfl) hown1' hown1.rd (by omega) ?_; intro v2 w2 hown2 hgb2; obtain ⟨q2, n2, c2, rfl⟩ := hown2.slice; have hput := Wri.put hB hv1 hown1' hown2 hgb2; obtain ⟨p_0, q_0, m_0⟩ := blk1 hput.1))
  go_end0
  exact ⟨rfl, hput.2.1, (Fb.gr hg1 _ _).trans hput.2.2⟩

theorem wflag {N B : Nat} {L : List UInt8} {w : World} (h : Wri N B L w) (is : Bool) (hlen : L.length + 8 ≤ 70368744177664) :
    Calls Tryd.prog 60 #[.pointer (some ⟨B, 0, none⟩), .bool is] w fun e w' => e = .returned (.tuple #[]) ∧ Wri N B (L ++ numW (if is then 1 else 0)) w' ∧ Fb N B w w' := by
  cases is with
  | true =>
    go_enter Tryd.func60, Tryd.ntmps60
    go_wp2_with (go_at_call 53; refine (wnum (h.gr (by repeat (first | (with_reducible exact Gr.refl _) | (with_reducible assumption) | (with_reducible refine Gr.alloc ?_ _) | (with_reducible refine Gr.drew ?_) | (with_reducible refine Gr.drewN ?_ _) | (with_reducible refine Gr.trans ?_ (by assumption)) | (with_reducible refine Gr.setCell ?_ (by first | exact Nat.le_refl _ | omega | (simp; done) | (simp; omega)) _)))) _ 1 1 [1] (by exact heap_alloc_new _ _) rfl hlen).mono ?_; rintro e w1 ⟨rfl, hW, hF⟩)
    exact bodyPost_ret (v := .tuple #[]) (by simp [results, Tryd.results60, go_sem]) rfl ⟨rfl, by simpa using hW, (Fb.gr (by repeat (first | (with_reducible exact Gr.refl _) | (with_reducible assumption) | (with_reducible refine Gr.alloc ?_ _) | (with_reducible refine Gr.drew ?_) | (with_reducible refine Gr.drewN ?_ _) | (with_reducible refine Gr.trans ?_ (by assumption)) | (with_reducible refine Gr.setCell ?_ (by first | exact Nat.le_refl _ | omega | (simp; done) | (simp; omega)) _))) _ _).trans hF⟩
  | false =>
    go_enter Tryd.func60, Tryd.ntmps60
    go_wp2_with (go_at_call 53; refine (wnum (h.gr (by repeat (first | (with_reducible exact Gr.refl _) | (with_reducible assumption) | (with_reducible refine Gr.alloc ?_ _) | (with_reducible refine Gr.drew ?_) | (with_reducible refine Gr.drewN ?_ _) | (with_reducible refine Gr.trans ?_ (by assumption)) | (with_reducible refine Gr.setCell ?_ (by first | exact Nat.le_refl _ | omega | (simp; done) | (simp; omega)) _)))) _ 1 1 [0] (by exact heap_alloc_new _ _) rfl hlen).mono ?_; rintro e w1 ⟨rfl, hW, hF⟩)
    go_end0
    exact ⟨rfl, by simpa using hW, (Fb.gr (by repeat (first | (with_reducible exact Gr.refl _) | (with_reducible assumption) | (with_reducible refine Gr.alloc ?_ _) | (with_reducible refine Gr.drew ?_) | (with_reducible refine Gr.drewN ?_ _) | (with_reducible refine Gr.trans ?_ (by assumption)) | (with_reducible refine Gr.setCell ?_ (by first | exact Nat.le_refl _ | omega | (simp; done) | (simp; omega)) _))) _ _).trans hF⟩

set_option maxRecDepth 100000 in
theorem wtext {N B : Nat} {L : List UInt8} {w : World} (h : Wri N B L w) (e : Int) :
    Calls Tryd.prog 54 #[.pointer (some ⟨B, 0, none⟩), .int .i64 e] w fun e' w' => e' = .returned (.tuple #[.string ⟨(if e = 0 then L else []).toArray⟩, .int .i64 e]) ∧ w = w' := by
  have hlt := h.lt
  obtain ⟨hB, v, hv, hown⟩ := h
  obtain ⟨k_0, g_0, l_0⟩ := blk1 hv
  have hcv := conv_rd hown.rd
  by_cases h0 : e = 0
  · subst h0
    go_enter Tryd.func54, Tryd.ntmps54
    go_wp2
    go_ret2
    exact ⟨rfl, rfl⟩
  · have hb : (e != 0) = true := by simpa using h0
    rw [if_neg h0]
    go_enter Tryd.func54, Tryd.ntmps54
    go_wp2
    go_ret2
    exact ⟨rfl, rfl⟩

theorem may_any2 (ok : Bool) (w : World) : Calls Tryd.prog 55 #[.bool ok] w fun e w' => e = .returned (.int .i64 (if ok then 0 else 2)) ∧ w = w' := by
  cases ok <;>
  · go_enter Tryd.func55, Tryd.ntmps55
    go_wp2
    go_ret
    exact ⟨rfl, rfl⟩
end Go.Proofs.YtpnojkgdjkncbaaDoor
