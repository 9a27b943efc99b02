/- Layer 7: what a work does: Append to a file that is new. -/
import Derived.Test.YtadbcikabpbogaaDskI
namespace Go.Proofs.Ytadbcikabpbogaa
open Go.RowKit Go.Maps
set_option maxRecDepth 100000
set_option linter.unusedVariables false
set_option linter.unusedSimpArgs false

theorem Fr.mono {S S' : Nat → Prop} {a b : World} (h : Fr S a b) (hS : ∀ k, S k → S' k) : Fr S' a b := ⟨h.os, h.tape, h.output, h.size, fun k o ho hn => h.blk k o ho (fun hs => hn (hS k hs))⟩
theorem append_new {D : Nat} {S : Nat → Prop} {st : DS} {L : List FB} {M : Nat} {kv : Value} {w : World} (h : DiskAt D S st L M kv w) {nm : ByteArray} (hnew : getK FB.nm nm.data.toList L = none) (hnm : nm.size ≤ 40) (hmany : st.fs.length < 20) {bv : Value} {l : List UInt8} (hl : Rd w bv l) (hall : allF st.fs + l.length ≤ 4194304)
    {B C E G : Nat} (hB : w.heap[B]? = some (.cells #[.pointer none] 70)) (hC : w.heap[C]? = some (.cells #[.pointer (some ⟨D, 0, none⟩)] 24)) (hE : w.heap[E]? = some (.cells #[.string nm] 9)) (hG : w.heap[G]? = some (.cells #[bv] 30)) (hbv : ∀ g, bv.ownBlock = some g → l ≠ [] → g ≠ M ∧ g ≠ B) :
    Calls Try.prog 38 #[.pointer (some ⟨B, 0, none⟩), .pointer (some ⟨C, 0, none⟩), .pointer (some ⟨E, 0, none⟩), .pointer (some ⟨G, 0, none⟩)] w fun e w' => e = .returned (.tuple #[]) ∧ (∃ L', DiskAt D (Up S w) { st with fs := putF ⟨nm.data.toList, l, 0⟩ st.fs } L' M kv w') ∧ Fr (fun k => S k ∨ k = B) w w' := by
  have HH := Lib.hid h
  have hd2 : nm.size ≤ maxLen := by unfold maxLen; omega
  have HK := Lib.hid (strKey nm hd2)
  have hL20 : L.length ≤ 20 := by have := h.many; rw [← h.fs, List.length_map] at this; exact this
  have hdl : nm.data.toList.length = nm.size := Array.length_toList
  have HX : Hid (∀ v' w' k, w'.ownsMap Try.prog 9 ptrElem M k ((mapD L).put (.string nm.data.toList) (.lit (.int .i64 (w.heap.size : Nat)))) → (∀ (g : Nat) (cs : Array Value) (t : TypeId) (fz : Nat × Nat), t ≠ 70 → w.heap[g]? = some (Obj.cells cs t fz) → w'.heap[g]? = some (Obj.cells cs t fz)) →
      w'.heap[w.heap.size]? = some (.cells #[v', .int .i64 0] 72) → Own w' 0 v' l → (∀ g, v'.ownBlock = some g → w.heap.size ≤ g) → ∃ L', DiskAt D (Up S w) { st with fs := putF ⟨nm.data.toList, l, 0⟩ st.fs } L' M kv w') := Lib.hid (fun v' w' k h1 h2 h3 h4 h5 =>
    ⟨_, h.add ⟨⟨nm.data.toList, l, 0⟩, w.heap.size, v'⟩ hnew (Nat.le_refl _) h5 h1 h2 h3 h4 (Nat.zero_le _) (by show nm.data.toList.length ≤ 40; omega) hmany hall⟩)
  have HLT : Hid (l.length ≤ 140737488355328) := Lib.hid (by omega)
  have HR := Lib.hid hl
  have HBV := Lib.hid hbv
  have HB := Lib.hid hB
  have HC := Lib.hid hC
  have HE := Lib.hid hE
  have HG := Lib.hid hG
  have hn0 : B ≠ w.heap.size := fun e => by have := (Array.getElem?_eq_some_iff.1 hB).1; omega
  obtain ⟨b_0, bg_0, bl_0⟩ := blk1 hB
  clear h hnew hnm hmany hl hall hB hC hE hG hbv hd2 hdl
  go_enter Try.func38, Try.ntmps38
  go_wp2
  have HW1 : Hid (∀ (j : Nat) (o : Obj), j ≠ B → w.heap[j]? = some o → ((w.setCell ⟨B, 0, none⟩ (.pointer (some ⟨w.heap.size, 0, none⟩))).alloc (.cells #[.slice none 0 0, .int .i64 0] 72)).heap[j]? = some o) := Lib.hid (fun j o hj ho => by
    have h1 := heap_set_other ho ⟨B, 0, none⟩ (.pointer (some ⟨w.heap.size, 0, none⟩)) (fun e => hj e.symm)
    exact (Gr.refl _).alloc _ |>.blk h1)
  have HW2 : Hid (((w.setCell ⟨B, 0, none⟩ (.pointer (some ⟨w.heap.size, 0, none⟩))).alloc (.cells #[.slice none 0 0, .int .i64 0] 72)).heap[B]? = some (.cells #[.pointer (some ⟨w.heap.size, 0, none⟩)] 70)) := Lib.hid ((Gr.refl _).alloc _ |>.blk (heap_set HB.out 0 (.pointer (some ⟨w.heap.size, 0, none⟩))))
  have HW3 : Hid (((w.setCell ⟨B, 0, none⟩ (.pointer (some ⟨w.heap.size, 0, none⟩))).alloc (.cells #[.slice none 0 0, .int .i64 0] 72)).heap[w.heap.size]? = some (.cells #[.slice none 0 0, .int .i64 0] 72)) := Lib.hid (heap_newn (by simp))
  have HW4 : Hid (Fr (fun k => k = B) w ((w.setCell ⟨B, 0, none⟩ (.pointer (some ⟨w.heap.size, 0, none⟩))).alloc (.cells #[.slice none 0 0, .int .i64 0] 72))) := Lib.hid ((Fr.set w (S := fun k => k = B) (p := ⟨B, 0, none⟩) rfl _).trans (Fr.gr ((Gr.refl _).alloc _) (fun k => k = B)) (fun _ h _ => h))
  generalize ((w.setCell ⟨B, 0, none⟩ (.pointer (some ⟨w.heap.size, 0, none⟩))).alloc (.cells #[.slice none 0 0, .int .i64 0] 72)) = W1 at *
  generalize hN0 : w.heap.size = n0 at *
  have HN0 := Lib.hid hN0
  clear hN0 b_0 bg_0 bl_0
  have ne : ∀ (j : Nat) (cs : Array Value) (t : TypeId) (fz : Nat × Nat), w.heap[j]? = some (.cells cs t fz) → t ≠ 70 → W1.heap[j]? = some (.cells cs t fz) := fun j cs t fz hj ht => HW1.out _ _ (by
    rintro rfl
    rw [HB.out] at hj
    simp only [Option.some.injEq, Obj.cells.injEq] at hj
    exact ht hj.2.1.symm) hj
  have NE := Lib.hid ne
  have hMB : M ≠ B := by
    rintro rfl
    obtain ⟨es, clock, hb, _⟩ := HH.out.map
    rw [HB.out] at hb; simp at hb
  have hm1 : W1.ownsMap Try.prog 9 ptrElem M L.length (mapD L) := ownsMap_blk HH.out.map (fun o ho => HW1.out _ _ hMB ho)
  have HM1 := Lib.hid hm1
  obtain ⟨k_0, k_1, k_2, k_3, g_0, g_1, g_2, g_3, l_0⟩ := blk4 (ne _ _ _ _ HH.out.cell (by decide))
  obtain ⟨b_0, bg_0, bl_0⟩ := blk1 HW2.out
  obtain ⟨c_0, cg_0, cl_0⟩ := blk1 (ne _ _ _ _ HC.out (by decide))
  obtain ⟨e_0, eg_0, el_0⟩ := blk1 (ne _ _ _ _ HE.out (by decide))
  clear hm1 ne
  go_still_tail 6, (by kernel_rfl)
  change wpList _ _ _ _ _ W1.drew
  refine wpList_mapUpdate_in _ rfl _ _ _ 65 rfl 9 70 strK Try.underlying65 ptrElem M L.length _ rfl (ownsMap_blk (w' := W1.drew) HM1.out (fun o ho => ho)) (by unfold maxLen; omega) _ _ _ rfl rfl HK.out _ [] (ptrElem_blk _) ?_
  intro W2 hown2 hturn2
  have HT2 := Lib.hid hturn2
  have HO2 := Lib.hid hown2
  have HFT := Lib.hid (Fr.turned (S := fun k => k = M) hturn2 rfl)
  have HRd := Lib.hid ((HR.out.fr HW4.out (fun g hg hne => (HBV.out g hg hne).2)).gr (Gr.refl W1).drew |>.fr HFT.out (fun g hg hne => (HBV.out g hg hne).1))
  have hb2 := turned_cells hturn2 _ _ _ _ HW2.out
  have hn2 := turned_cells hturn2 _ _ _ _ HW3.out
  have hg2 := turned_cells hturn2 _ _ _ _ (NE.out _ _ _ _ HG.out (by decide))
  have HB2 := Lib.hid hb2
  have HN2 := Lib.hid hn2
  clear k_0 k_1 k_2 k_3 g_0 g_1 g_2 g_3 l_0 b_0 bg_0 bl_0 c_0 cg_0 cl_0 e_0 eg_0 el_0 hturn2 hown2
  obtain ⟨k_0, k_1, g_0, g_1, l_0⟩ := blk2 hn2
  obtain ⟨b_0, bg_0, bl_0⟩ := blk1 hb2
  obtain ⟨c_0, cg_0, cl_0⟩ := blk1 hg2
  clear hb2 hn2 hg2
  go_wp2
  go_region_law (
    refine step_app rfl _ _ rfl 0 (Nat.zero_le _) [] l rfl rfl (Own.nil _ _) (HRd.out.gr (Gr.refl W2).drew) (by simpa using HLT.out) ?_
    intro vq vn vc w1 hown hgrew hat
    have HW := Lib.hid hown
    have HG : Hid (W2.drew.grownBy w1 none) := Lib.hid hgrew
    have HA : Hid ((Value.slice vq vn vc).ownBlock = none ∨ (Value.slice vq vn vc).ownBlock = some W2.heap.size) := Lib.hid hat
    have hb1 : w1.heap[B]? = some (.cells #[.pointer (some ⟨n0, 0, none⟩)] 70) := by
      rw [HG.out.block B bl_0 (by simp)]
      exact HB2.out
    have hc1 : w1.heap[n0]? = some (.cells #[.slice none 0 0, .int .i64 0] 72) := by
      rw [HG.out.block n0 l_0 (by simp)]
      exact HN2.out
    have HC1 := Lib.hid hc1
    obtain ⟨n_0, n_1, ng_0, ng_1, nl_1⟩ := blk2 hc1
    obtain ⟨m_0, mg_0, ml_0⟩ := blk1 hb1
    clear hgrew hc1 hb1 hown hat)
  all_goals
    go_wp2
    go_end0
    have hk : ∀ (j : Nat) (o : Obj), j ≠ n0 → W2.heap[j]? = some o → (w1.setCell ⟨n0, 0, none⟩ (.slice vq vn vc)).heap[j]? = some o := fun j o hj ho => heap_set_other (by
      rw [HG.out.block j (Array.getElem?_eq_some_iff.1 ho).1 (by simp)]
      exact ho) ⟨n0, 0, none⟩ (.slice vq vn vc) (fun e => hj e.symm)
    have hlt : ∀ {j : Nat} {o : Obj}, w.heap[j]? = some o → j ≠ n0 := fun {j o} ho => by
      have := (Array.getElem?_eq_some_iff.1 ho).1
      have := HN0.out
      omega
    have hsz : n0 + 1 ≤ W2.heap.size := l_0
    refine ⟨rfl, HX.out (.slice vq vn vc) _ (L.length + 1) (ownsMap_blk HO2.out (fun o ho => ?_)) (fun g cs t fz ht hg => hk _ _ (hlt hg) (turned_cells HT2.out _ _ _ _ (NE.out _ _ _ _ hg ht))) (heap_set HC1.out 0 (.slice vq vn vc)) (HW.out.blk (fun g o hg ho => heap_set_other ho ⟨n0, 0, none⟩ (.slice vq vn vc) (fun e => ?_))) (fun g hg => ?_), ?_⟩
    · obtain ⟨es, clock, hb, _⟩ := HH.out.map
      exact hk _ _ (hlt hb) ho
    · rcases HA.out with h1 | h1
      · rw [hg] at h1; cases h1
      · rw [hg] at h1
        have h2 : g = W2.heap.size := Option.some.inj h1
        have e' : n0 = g := e
        omega
    · rcases HA.out with h1 | h1
      · rw [hg] at h1; cases h1
      · rw [hg] at h1
        have h2 : g = W2.heap.size := Option.some.inj h1
        omega
    · refine (((HW4.out.drew.mono (S' := fun k => S k ∨ k = B) (fun _ h => .inr h)).trans HFT.out (fun k h _ => .inl (h ▸ HH.out.sM))).drew.trans (Fr.grown (S := fun _ => False) HG.out (fun k e => by simp at e)) (fun _ h _ => h.elim)).trans (Fr.set w1 (S := fun k => k = n0) (p := ⟨n0, 0, none⟩) rfl (.slice vq vn vc)) (fun k h h2 => ?_)
      have := HN0.out
      omega
end Go.Proofs.Ytadbcikabpbogaa
