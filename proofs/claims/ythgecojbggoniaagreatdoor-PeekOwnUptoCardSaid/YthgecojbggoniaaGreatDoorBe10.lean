/- What the rows stand on, part 10: CelC, SkpE. Printed by bundle.py out of my texts. -/
import Derived.Test.YthgecojbggoniaaGreatDoorBe01
import Derived.Test.YthgecojbggoniaaGreatDoorBe09
import Derived.Deep.LoopGhost
import Derived.Lib.Walk
import Derived.Sort.WalkB12
import Derived.Lib.SlicesMore
import Derived.Shelf.RegionOpenPlain
import Derived.LaidEqlPtr
namespace Go.Proofs.YthgecojbggoniaaGreatDoor
open Go.RowKit Go.Lib Go.Sort
set_option maxRecDepth 100000
set_option linter.unusedVariables false
set_option linter.unusedSimpArgs false

end Go.Proofs.YthgecojbggoniaaGreatDoor
namespace Go.Proofs.YthgecojbggoniaaGreatDoor
open Go.RowKit
set_option maxRecDepth 100000
set_option linter.unusedVariables false
set_option linter.unusedSimpArgs false

theorem Own.made (W : World) {N : Nat} (hN : N ≤ W.heap.size) {c : UInt8} {z : Int} (hz : z = c.toNat) : Own (W.alloc (.cells #[.int .u8 z] 5)) N (.slice (some ⟨W.heap.size, 0, none⟩) 1 1) [c] := by
  subst hz
  exact ⟨by simp [nums], .inr ⟨W.heap.size, 1, _, rfl, hN, heap_alloc_new W _, by simp [nums], by decide, rfl, rfl⟩⟩
theorem u8_mod (m : Nat) : ((m : Int) % 256) = ((UInt8.ofNat (m % 256)).toNat : Int) := by simp

def strE (s : List UInt8) : Int := if s.length ≤ 64 then 0 else 5
set_option maxHeartbeats 1000000 in
theorem refNum_bad (n : Int) (h : ¬ (0 ≤ n ∧ n ≤ 9007199254740991)) (w : World) :
    Calls Tryz.prog 102 #[.int .i64 n] w fun e w' => e = .returned (.tuple #[.slice none 0 0, .int .i64 2]) ∧ w = w' := by
  by_cases h1 : n < 0
  · go_enter Tryz.func102, Tryz.ntmps102
    go_wp2
    go_ret2
    exact ⟨rfl, rfl⟩
  · have h2 : 9007199254740991 < n := by omega
    go_enter Tryz.func102, Tryz.ntmps102
    go_wp2
    go_ret2
    exact ⟨rfl, rfl⟩

set_option maxHeartbeats 2000000 in
set_option maxRecDepth 100000 in
theorem refNum_good (k : Nat) (hk : k ≤ 9007199254740991) (w : World) :
    Calls Tryz.prog 102 #[.int .i64 k] w fun e w' => ∃ v, e = .returned (.tuple #[v, .int .i64 0]) ∧ Own w' w.heap.size v (numT k) ∧ Gr w w' := by
  have h7 := numD_le7 hk
  go_enter Tryz.func102, Tryz.ntmps102
  go_wp2
  go_loopw [0, 4] (fun n v wr => ∃ (m : Nat) (l : List UInt8), m ≤ k ∧ n = .int .i64 m ∧ Hid (numD k = numD m ++ l) ∧ l.length ≤ 7 ∧ Own wr w.heap.size v l ∧ Gr w wr) (fun n _ _ => (intOf n).toNat)
  case atStart => exact ⟨k, [], Nat.le_refl _, rfl, Lib.hid (by simp), by simp, Own.nil _ _, Gr.refl _⟩
  case round =>
    obtain ⟨m, l, hm, rfl, HD, hl, hown, hg⟩ := hrel
    have hsz := hg.size
    by_cases h0 : 0 < m
    · go_wp2_with (at_builtin; refine app_rd (N := w.heap.size) (by simp; omega) (by rfl) (.tmp 16) (.tmp 17) (by rfl) [UInt8.ofNat (m % 256)] l (by rfl) (by rfl) (Own.made _ (by omega) (by exact u8_mod m)) (hown.alloc _).rd (by simp; omega) ?_; intro v1 w1 hown1 hgb1)
      have hg1 := (Own.made (c := UInt8.ofNat (m % 256)) wr (N := w.heap.size) (by omega) (u8_mod m)).grew (hg.alloc _) hgb1
      have HD' := HD.out
      rw [numD_pos h0, List.append_assoc] at HD'
      have hl7 : ([UInt8.ofNat (m % 256)] ++ l).length ≤ 7 := by
        have := congrArg List.length HD'
        simp at this ⊢; omega
      go_roundw
      case rel => exact ⟨m / 256, [UInt8.ofNat (m % 256)] ++ l, by omega, by go_num, Lib.hid (by rw [HD']), hl7, hown1, hg1⟩
      case measure => simp [intOf]; omega
    · have hm0 : m = 0 := by omega
      subst hm0
      have HD' := HD.out
      rw [numD_zero, List.nil_append] at HD'
      have hln := len_rd (ty := 3) hown.rd
      go_wp2_with (at_builtin; refine app_rd (N := w.heap.size) (by simp; omega) (by rfl) (.tmp 24) (.tmp 25) (by rfl) [UInt8.ofNat (numD k).length] l (by rfl) (by rfl) (Own.made _ (by omega) (by rw [HD']; simp; omega)) (hown.alloc _).rd (by simp; omega) ?_; intro v3 w3 hown3 hgb3)
      have hg3 := (Own.made (c := UInt8.ofNat (numD k).length) wr (N := w.heap.size) (by omega) (by rw [HD']; simp; omega)).grew (hg.alloc _) hgb3
      go_ret2
      refine ⟨v3, rfl, ?_, hg3⟩
      unfold numT
      rw [← HD'] at hown3
      exact hown3

theorem refNum_any (n : Int) (w : World) :
    Calls Tryz.prog 102 #[.int .i64 n] w fun e w' => ∃ v, e = .returned (.tuple #[v, .int .i64 (numE n)]) ∧ Own w' w.heap.size v (numW n) ∧ Gr w w' := by
  unfold numE numW
  by_cases h : 0 ≤ n ∧ n ≤ 9007199254740991
  · rw [if_pos h, if_pos h]
    obtain ⟨k, rfl⟩ := Int.eq_ofNat_of_zero_le h.1
    exact refNum_good k (by omega) w
  · rw [if_neg h, if_neg h]
    refine (refNum_bad n h w).mono ?_
    rintro e w' ⟨rfl, rfl⟩
    exact ⟨_, rfl, Own.nil _ _, Gr.refl _⟩

theorem refStr_any (s : ByteArray) (w : World) :
    Calls Tryz.prog 103 #[.string s, .int .i64 64] w fun e w' => ∃ v, e = .returned (.tuple #[v, .int .i64 (strE s.data.toList)]) ∧ Own w' w.heap.size v (strW s.data.toList) ∧ Gr w w' := by
  have hl : s.data.toList.length = s.size := Array.length_toList
  by_cases h : s.size ≤ 64
  · have hn := Lib.hid (fun w => refNum_good s.size (by omega) w)
    have h7 := numD_le7 (n := s.size) (by omega)
    unfold strE strW
    rw [hl, if_pos h, if_pos h]
    go_enter Tryz.func103, Tryz.ntmps103
    go_wp2_with (first
      | (go_at_call 102; refine (hn.out _).mono ?_; rintro e w1 ⟨v1, rfl, hown1, hg1⟩; have hsz := hg1.size)
      | (at_builtin; refine app_str (N := w.heap.size) (by omega) (by rfl) (.tmp 23) (.tmp 24) (by rfl) (numT s.size) s (by rfl) (by rfl) hown1 (by simp [numT]; omega) ?_; intro v2 w2 hown2 hgb2))
    have hg2 := hown1.grew hg1 hgb2
    go_ret2
    exact ⟨v2, rfl, hown2, hg2⟩
  · unfold strE strW
    rw [hl, if_neg h, if_neg h]
    go_enter Tryz.func103, Tryz.ntmps103
    go_wp2
    go_ret2
    exact ⟨_, rfl, Own.nil _ _, Gr.refl _⟩
end Go.Proofs.YthgecojbggoniaaGreatDoor
namespace Go.Proofs.YthgecojbggoniaaGreatDoor
open Go.RowKit
set_option maxRecDepth 100000
set_option linter.unusedVariables false
set_option linter.unusedSimpArgs false

theorem Own.slice {a : World} {N : Nat} {v : Value} {l : List UInt8} (h : Own a N v l) : ∃ (q : Option Addr) (n c : Nat), v = .slice q n c := by
  rcases h.form with ⟨rfl, _⟩ | ⟨g, cap, cur, rfl, _⟩
  · exact ⟨_, _, _, rfl⟩
  · exact ⟨_, _, _, rfl⟩

theorem numT_length {n : Nat} (h : n ≤ 9007199254740991) : (numT n).length ≤ 8 := by
  have := numD_le7 h
  simp [numT]; omega
theorem numW_length (n : Int) : (numW n).length ≤ 8 := by
  unfold numW
  split
  · exact numT_length (by omega)
  · simp
theorem strW_length (s : List UInt8) : (strW s).length ≤ 72 := by
  unfold strW
  split
  · have := numT_length (n := s.length) (by omega)
    simp; omega
  · simp

theorem may_any2 (ok : Bool) (w : World) : Calls Tryz.prog 126 #[.bool ok] w fun e w' => e = .returned (.int .i64 (if ok then 0 else 2)) ∧ w = w' := by
  cases ok <;>
  · go_enter Tryz.func126, Tryz.ntmps126
    go_wp2
    go_ret
    exact ⟨rfl, rfl⟩
end Go.Proofs.YthgecojbggoniaaGreatDoor
namespace Go.Proofs.YthgecojbggoniaaGreatDoor
open Go.RowKit
set_option maxRecDepth 100000
set_option linter.unusedVariables false
set_option linter.unusedSimpArgs false
set_option linter.unnecessarySimpa false

theorem nodeA_val (n : Nd) (f : Nat → Value) (v : ByteArray) : (nodeA n f).setIfInBounds 1 (.string v) = nodeA ⟨n.blk, n.key, v, n.steps⟩ f := by
  unfold nodeA
  simp [List.setIfInBounds_toArray] <;> rfl
theorem SkipAt.val {lb H : Nat} {S : Nat → Prop} {P r : List Nd} {n : Nd} {w : World} (h : SkipAt lb H S (P ++ n :: r) w) (v : ByteArray) :
    SkipAt lb H S (P ++ ⟨n.blk, n.key, v, n.steps⟩ :: r) (w.setCell ⟨n.blk, 1, none⟩ (.string v)) ∧ FrT S w (w.setCell ⟨n.blk, 1, none⟩ (.string v)) := by
  have hc := h.chain
  rw [← List.cons_append] at hc
  obtain ⟨c1, c2, c3⟩ := chainF_app.1 hc
  have hnd := h.nd
  rw [← List.cons_append, List.map_append, List.map_cons] at hnd
  obtain ⟨n1, n2, n3⟩ := List.nodup_append.1 hnd
  have hty : ∀ b cs, w.heap[b]? = some (.cells cs 153) → n.blk ≠ b := fun b cs hb e => by
    rw [← e, c2] at hb
    simp at hb
  refine ⟨⟨?_, ?_, ?_, ?_, ?_, h.sl, ?_⟩, ⟨rfl, rfl, rfl, by simp, fun k o ho hn => heap_set_other ho _ _ (fun e => ?_)⟩⟩
  · rw [heap_set_other h.list _ _ (hty _ _ h.list)]
    simp
  · rw [← List.cons_append]
    refine chainF_app.2 ⟨chainF_nxt (X := fun i => n :: r ++ []) (fun i hi => ?_) (chainF_blk c1 (fun x hx o ho => heap_set_other ho _ _ (fun e => ?_))), ?_, chainF_blk c3 (fun x hx o ho => heap_set_other ho _ _ (fun e => ?_))⟩
    · simp only [List.append_nil, nxt, List.find?_cons]
      cases decide (i < n.steps) <;> rfl
    · exact n3 _ (List.mem_map_of_mem hx) _ (by simp) e.symm
    · rw [heap_set c2, nodeA_val]
      rfl
    · have e' : n.blk = x.blk := e
      have h5 := List.mem_map_of_mem (f := fun x : Nd => x.blk) hx
      rw [← e'] at h5
      exact (List.nodup_cons.1 n2).1 h5
  · have := h.rise
    obtain ⟨r1, r2, r3⟩ := List.pairwise_append.1 this
    obtain ⟨r4, r5⟩ := List.pairwise_cons.1 r2
    refine List.pairwise_append.2 ⟨r1, List.pairwise_cons.2 ⟨r4, r5⟩, fun a ha b hb => ?_⟩
    rcases List.mem_cons.1 hb with rfl | hb
    · exact r3 a ha n (by simp)
    · exact r3 a ha b (by simp [hb])
  · rw [← List.cons_append, List.map_append, List.map_cons]
    exact hnd
  · intro x hx
    rcases List.mem_append.1 hx with hx | hx
    · exact h.steps x (by simp [hx])
    · rcases List.mem_cons.1 hx with rfl | hx
      · exact h.steps n (by simp)
      · exact h.steps x (by simp [hx])
  · intro x hx
    rcases List.mem_cons.1 hx with rfl | hx
    · exact h.sn _ (by simp)
    · rcases List.mem_append.1 hx with hx | hx
      · exact h.sn x (by simp [hx])
      · rcases List.mem_cons.1 hx with rfl | hx
        · exact h.sn n (by simp)
        · exact h.sn x (by simp [hx])
  · simp only at e
    subst e
    rw [c2] at ho
    cases ho
    exact hn (h.sn n (by simp)) ⟨_, _, .inl rfl⟩
theorem put_old {lb H : Nat} {S : Nat → Prop} {L : List Nd} {w : World} (h : SkipAt lb H S L w) (key val : ByteArray) (s : Nat) (hs : 1 ≤ s ∧ s ≤ 16) {n : Nd} (hn : getN key L = some n) :
    Calls Tryz.prog 56 #[.pointer (some ⟨lb, 0, none⟩), .string key, .string val, .int .i64 s] w fun e w' => e = .returned (.bool true) ∧ (∃ r, above key L = n :: r ∧ SkipAt lb H S (below key L ++ ⟨n.blk, n.key, val, n.steps⟩ :: r) w') ∧ FrT S w w' := by
  have HH := Lib.hid h
  have HN := Lib.hid (none_skip h.list)
  have hf := find_sk h key
  rw [hn] at hf
  have HF := Lib.hid hf
  obtain ⟨⟨r, hr⟩, hk⟩ := getN_mem hn
  have hLe := below_above key L
  rw [hr] at hLe
  have HC : Hid (∀ W, Gr w W → W.cell? ⟨n.blk, 1, none⟩ = some (.string n.val) ∧ W.frozen? ⟨n.blk, 1, none⟩ = false) := Lib.hid (fun W hg => by
    have hc := (h.gr hg).chain
    rw [← hLe, ← List.cons_append] at hc
    have h1 := chainF_at hc
    exact ⟨cell_of h1 rfl, by simp [World.frozen?, h1]⟩)
  have HV : Hid (∀ W, Gr w W → SkipAt lb H S (below key L ++ ⟨n.blk, n.key, val, n.steps⟩ :: r) (W.setCell ⟨n.blk, 1, none⟩ (.string val)) ∧ FrT S w (W.setCell ⟨n.blk, 1, none⟩ (.string val))) := Lib.hid (fun W hg => by
    have h1 := h.gr hg
    rw [← hLe] at h1
    have := h1.val val
    exact ⟨this.1, (FrT.gr hg).trans this.2 (fun k hk _ => hk)⟩)
  have HR := Lib.hid hr
  obtain ⟨hs1, hs2⟩ := hs
  clear h hn hf hr hk hLe
  simp only [ptr] at HF
  go_enter Tryz.func56, Tryz.ntmps56
  go_wp2_with (first | (go_at_call 85; refine HN.out.mono ?_; rintro e w1 ⟨rfl, rfl⟩) | (go_at_call 81; refine HF.out.mono ?_; rintro e w1 ⟨rfl, hg1⟩; obtain ⟨k1, k2⟩ := HC.out w1 hg1) | fail)
  go_ret
  exact ⟨rfl, ⟨r, HR.out, (HV.out w1 hg1).1⟩, (HV.out w1 hg1).2⟩

structure DropInv (lb H : Nat) (S : Nat → Prop) (P : List Nd) (n : Nd) (r : List Nd) (w0 w : World) (k : Nat) : Prop where
  c1 : ChainF w (fun i => if i < k then r else n :: r) (hd0 H :: P)
  c2 : ChainF w (fun _ => []) (n :: r)
  list : w.heap[lb]? = some (.cells #[.pointer (some ⟨H, 0, none⟩), .int .i64 ((P ++ n :: r).length : Int)] 153)
  fr : FrT S w0 w
theorem DropInv.drew {lb H : Nat} {S : Nat → Prop} {P r : List Nd} {n : Nd} {w0 w : World} {k : Nat} (h : DropInv lb H S P n r w0 w k) : DropInv lb H S P n r w0 w.drew k :=
  ⟨chainF_blk h.c1 (fun _ _ _ ho => ho), chainF_blk h.c2 (fun _ _ _ ho => ho), h.list, ⟨h.fr.os, h.fr.tape, h.fr.output, h.fr.size, h.fr.blk⟩⟩
theorem DropInv.skip {lb H : Nat} {S : Nat → Prop} {P r : List Nd} {n : Nd} {w0 w : World} {k : Nat} (h : DropInv lb H S P n r w0 w k) (hk : n.steps ≤ k) : DropInv lb H S P n r w0 w (k + 1) := by
  refine ⟨chainF_nxt (fun i hi => ?_) h.c1, h.c2, h.list, h.fr⟩
  by_cases h1 : i < k
  · rw [if_pos h1, if_pos (by omega)]
  · by_cases h2 : i < k + 1
    · rw [if_neg h1, if_pos h2]
      simp only [nxt, List.find?_cons, decide_eq_false (show ¬ i < n.steps by omega)]
    · rw [if_neg h1, if_neg h2]
theorem DropInv.step {lb H : Nat} {S : Nat → Prop} {P r : List Nd} {n : Nd} {w0 w : World} {k : Nat} (h : DropInv lb H S P n r w0 w k) (hk16 : k < 16) (hnd : ((hd0 H :: (P ++ n :: r)).map (·.blk)).Nodup) (hsn : ∀ x ∈ hd0 H :: (P ++ n :: r), S x.blk) :
    DropInv lb H S P n r w0 (w.setCell ⟨(lastAt (hd0 H) P k).blk, 3 + k, none⟩ (ptr (nxt r k))) (k + 1) := by
  have hmem := last_mem (h := hd0 H) (P := P) (i := k) (by simp [hd0]; exact hk16)
  rw [← List.cons_append, List.map_append] at hnd
  obtain ⟨n1, n2, n3⟩ := List.nodup_append.1 hnd
  refine ⟨?_, ?_, ?_, ?_⟩
  · refine chainF_turn h.c1 hk16 (by simp [hd0]; exact hk16) (fun i hi hne => ?_) n1 (fun A' R' e' => ?_) (fun j o hj ho => heap_set_other ho _ _ (fun e => hj e.symm))
    · by_cases h1 : i < k
      · rw [if_pos h1, if_pos (by omega)]
      · rw [if_neg h1, if_neg (by omega)]
    · have hc := h.c1
      rw [e'] at hc
      have h1 := chainF_at hc
      rw [heap_set h1]
      congr 2
      rw [if_pos (by omega : k < k + 1)]
      rfl
  · exact chainF_blk h.c2 (fun x hx o ho => heap_set_other ho _ _ (fun e => n3 _ (List.mem_map_of_mem hmem) _ (List.mem_map_of_mem hx) e))
  · obtain ⟨cs, hcs⟩ := chain_blk h.c1 _ hmem
    exact heap_set_other h.list _ _ (fun e => by simp only at e; rw [e, h.list] at hcs; simp at hcs)
  · obtain ⟨cs, hcs⟩ := chain_blk h.c1 _ hmem
    refine ⟨h.fr.os, h.fr.tape, h.fr.output, by simpa using h.fr.size, fun j o ho hn => heap_set_other (h.fr.blk j o ho hn) _ _ (fun e => ?_)⟩
    simp only at e
    subst e
    have h5 := h.fr.blk _ o ho hn
    rw [hcs] at h5
    cases h5
    exact hn (hsn _ (by
      rcases List.mem_cons.1 hmem with h | h
      · simp [h]
      · simp [h])) ⟨cs, _, .inl rfl⟩
theorem DropInv.ends {lb H : Nat} {S : Nat → Prop} {P r : List Nd} {n : Nd} {w w1 : World} (h : DropInv lb H S P n r w w1 16) (h0 : SkipAt lb H S (P ++ n :: r) w) :
    SkipAt lb H S (P ++ r) (w1.setCell ⟨lb, 1, none⟩ (.int .i64 (((P ++ n :: r).length : Int) - 1))) ∧ FrT S w (w1.setCell ⟨lb, 1, none⟩ (.int .i64 (((P ++ n :: r).length : Int) - 1))) := by
  rw [show (((P ++ n :: r).length : Int) - 1) = ((P ++ r).length : Int) by simp; omega]
  have hne : ∀ b cs, w1.heap[b]? = some (.cells cs 150) → lb ≠ b := fun b cs hb e => by
    rw [← e, h.list] at hb
    simp at hb
  have hc : ∀ {X : Nat → List Nd} {Q : List Nd}, ChainF w1 X Q → ChainF (w1.setCell ⟨lb, 1, none⟩ (.int .i64 ((P ++ r).length : Int))) X Q := fun hx => chainF_blk hx (fun n hn o ho => by
    obtain ⟨cs, hcs⟩ := chain_blk hx n hn
    exact heap_set_other ho _ _ (hne _ _ hcs))
  have hsub : (P ++ r).Sublist (P ++ n :: r) := List.Sublist.append_left (List.sublist_cons_self n r) P
  refine ⟨⟨heap_set h.list 1 _, ?_, h0.rise.sublist hsub, h0.nd.sublist ((hsub.cons_cons _).map _), fun x hx => h0.steps x (hsub.mem hx), h0.sl, fun x hx => h0.sn x ((hsub.cons_cons _).mem hx)⟩, ?_⟩
  · rw [← List.cons_append]
    refine chainF_app.2 ⟨chainF_congr (fun i hi => ?_) (hc h.c1), hc h.c2.2⟩
    rw [if_pos hi, List.append_nil]
  · refine ⟨h.fr.os, h.fr.tape, h.fr.output, by simpa using h.fr.size, fun j o ho hn => ?_⟩
    refine heap_set_other (h.fr.blk j o ho hn) _ _ (fun e => ?_)
    simp only at e
    subst e
    have h5 := h.fr.blk lb o ho hn
    rw [h.list] at h5
    cases h5
    exact hn h0.sl ⟨_, _, .inr rfl⟩
theorem node_info : ∃ j, Tryz.prog.info? 150 = some j ∧ j.size ≠ 0 := by
  have h : (Tryz.prog.info? 150).map (·.size) = some 19 := by kernel_rfl
  cases e : Tryz.prog.info? 150 with
  | none => rw [e] at h; simp at h
  | some j => rw [e] at h; simp at h; exact ⟨j, rfl, by omega⟩
theorem eqlPS (b : Nat) (w : World) : (binOp .eql 146 (.pointer (some ⟨b, 0, none⟩)) (.pointer (some ⟨b, 0, none⟩))).run Tryz.prog w = .ok (.bool true) w := by
  obtain ⟨j, h1, h2⟩ := node_info
  exact run_eql_ptr_same w _ Tryz.underlying146 h1
theorem eqlPO {a b : Nat} {w : World} (hne : a ≠ b) {ca cb : Array Value} {ta tb : TypeId} (ha : w.heap[a]? = some (.cells ca ta)) (hb : w.heap[b]? = some (.cells cb tb)) : (binOp .eql 146 (.pointer (some ⟨a, 0, none⟩)) (.pointer (some ⟨b, 0, none⟩))).run Tryz.prog w = .ok (.bool false) w := by
  obtain ⟨j, h1, h2⟩ := node_info
  exact run_eql_ptr_other w Tryz.underlying146 h1 h2 (by simpa using hne) ha hb
theorem eqlNP (b : Nat) (w : World) : (binOp .eql 146 (.pointer none) (.pointer (some ⟨b, 0, none⟩))).run Tryz.prog w = .ok (.bool false) w := by kernel_rfl
set_option maxHeartbeats 4000000 in
theorem drop_some {lb H : Nat} {S : Nat → Prop} {L : List Nd} {w : World} (h : SkipAt lb H S L w) (key : ByteArray) (hlen : L.length < 4611686018427387904) {n : Nd} (hn : getN key L = some n) :
    Calls Tryz.prog 55 #[.pointer (some ⟨lb, 0, none⟩), .string key] w fun e w' => e = .returned (.bool true) ∧ (∃ r, above key L = n :: r ∧ SkipAt lb H S (below key L ++ r) w') ∧ FrT S w w' := by
  have hf := find_sk h key
  rw [hn] at hf
  have HF := Lib.hid hf
  obtain ⟨⟨r, hr⟩, hk⟩ := getN_mem hn
  have hLe := below_above key L
  rw [hr] at hLe
  have HL := Lib.hid hLe
  have HH := Lib.hid h
  have HR := Lib.hid hr
  have hh := h
  rw [← hLe] at hh
  have HQ := Lib.hid hh
  have HA := Lib.hid (fun W (hg : Gr w W) => ahead_any (h.gr hg) key)
  clear h hn hf hr hk hLe hh
  simp only [ptr] at HF
  go_enter Tryz.func55, Tryz.ntmps55
  go_wp2_with (first | (go_at_call 81; refine HF.out.mono ?_; rintro e w1 ⟨rfl, hg1⟩; have HG1 := Lib.hid hg1; clear hg1) | fail)
  refine (HA.out w1 HG1.out).mono ?_
  rintro e w2 ⟨rfl, hg2⟩
  have HI0 : Hid (DropInv lb H S (below key L) n r w w2 0) := by
    have hg := HG1.out.trans hg2
    have hq := HQ.out.gr hg
    have hc := hq.chain
    rw [← List.cons_append] at hc
    obtain ⟨p1, p2⟩ := chainF_app.1 hc
    exact Lib.hid ⟨by simpa using p1, p2, hq.list, FrT.gr hg⟩
  have HND := Lib.hid HQ.out.nd
  clear HA HF HG1 hg2
  go_wp2
  go_loopw [16] (fun iv wr => ∃ k : Nat, iv = .int .i64 k ∧ k ≤ 16 ∧ Hid (DropInv lb H S (below key L) n r w wr k)) (fun iv _ => 16 - (intOf iv).toNat)
  case atStart => exact ⟨0, rfl, by omega, HI0⟩
  case round =>
    obtain ⟨k, rfl, hk, HI⟩ := hrel
    clear HI0
    by_cases hk16 : k < 16
    · have hix := run_index (hd0 H) (below key L) k hk16
      have c1 := last_cell HI.out.c1 hk16 (by simp [hd0]; exact hk16)
      have f1 := chain_frozen (i := 3 + k) HI.out.c1 (last_mem (h := hd0 H) (P := below key L) (i := k) (by simp [hd0]; exact hk16))
      simp only [Nat.lt_irrefl, if_false] at c1
      have HSt := Lib.hid (HI.out.step hk16 HND.out HQ.out.sn)
      have HSk := Lib.hid (fun h => HI.out.skip h)
      generalize outA (hd0 H) (below key L) 0 = oa at *
      generalize (lastAt (hd0 H) (below key L) k).blk = ab at *
      by_cases hks : k < n.steps
      · have hq := eqlPS n.blk
        have e1 : nxt (n :: r) k = some n := by simp only [nxt, List.find?_cons, decide_eq_true hks]
        rw [e1] at c1
        have c2 := chain_cell (A := []) HI.out.c2 hk16 hks
        rw [List.append_nil] at c2
        simp only [ptr] at c1
        clear e1
        cases hn : nxt r k with
        | none =>
          rw [hn] at c2 HSt
          have HS := HSt
          simp only [ptr] at c2 HS
          go_wp2
          go_region
          go_wp2
          go_roundw
          case rel => exact ⟨k + 1, by go_num, by omega, Lib.hid HS.out.drew⟩
          case measure => first | (simp [intOf]; done) | (simp [intOf]; omega)
        | some m =>
          rw [hn] at c2 HSt
          have HS := HSt
          simp only [ptr] at c2 HS
          go_wp2
          go_region
          go_wp2
          go_roundw
          case rel => exact ⟨k + 1, by go_num, by omega, Lib.hid HS.out.drew⟩
          case measure => first | (simp [intOf]; done) | (simp [intOf]; omega)
      · have e1 : nxt (n :: r) k = nxt r k := by simp only [nxt, List.find?_cons, decide_eq_false hks]
        rw [e1] at c1
        have HS := Lib.hid (HSk.out (by omega))
        cases hn : nxt r k with
        | none =>
          rw [hn] at c1
          simp only [ptr] at c1
          have hq := eqlNP n.blk
          go_wp2
          go_roundw
          case rel => exact ⟨k + 1, by go_num, by omega, HS⟩
          case measure => first | (simp [intOf]; done) | (simp [intOf]; omega)
        | some m =>
          rw [hn] at c1
          have hmn : m.blk ≠ n.blk := fun e => by
            have h1 := HND.out
            rw [← List.cons_append, List.map_append, List.map_cons] at h1
            exact (List.nodup_cons.1 (List.nodup_append.1 h1).2.1).1 (by
              have h5 := List.mem_map_of_mem (f := fun x : Nd => x.blk) (nxt_mem hn).1
              rw [e] at h5
              exact h5)
          simp only [ptr] at c1
          obtain ⟨cm, hcm⟩ := chain_blk HI.out.c2.2 m (nxt_mem hn).1
          have hq := eqlPO hmn hcm HI.out.c2.1
          go_wp2
          go_roundw
          case rel => exact ⟨k + 1, by go_num, by omega, HS⟩
          case measure => first | (simp [intOf]; done) | (simp [intOf]; omega)
    · obtain rfl : k = 16 := by omega
      have hl1 := cell_of HI.out.list (i := 1) rfl
      have hl2 : wr.frozen? ⟨lb, 1, none⟩ = false := by simp [World.frozen?, HI.out.list]
      have HE := Lib.hid (HI.out.ends HQ.out)
      have hlen2 : ((below key L) ++ n :: r).length < 4611686018427387904 := by rw [HL.out]; exact hlen
      have hpos : 0 < ((below key L) ++ n :: r).length := by simp; omega
      generalize ((below key L) ++ n :: r).length = ll at *
      go_wp2
      go_ret
      exact ⟨rfl, ⟨r, HR.out, HE.out.1⟩, HE.out.2⟩
end Go.Proofs.YthgecojbggoniaaGreatDoor
