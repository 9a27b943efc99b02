/- Layer 9: lists on steps: Put, the walk. -/
import Derived.Test.YtocijpeminghoaaGreatDoorSkpC
namespace Go.Proofs.YtocijpeminghoaaGreatDoor
open Go.RowKit
set_option maxRecDepth 100000
set_option linter.unusedVariables false
set_option linter.unusedSimpArgs false
set_option linter.unnecessarySimpa false

theorem chain_frozen {w : World} {X : Nat → List Nd} {P : List Nd} {n : Nd} {i : Nat} (h : ChainF w X P) (hn : n ∈ P) : w.frozen? ⟨n.blk, i, none⟩ = false := by
  obtain ⟨cs, hcs⟩ := chain_blk h n hn
  simp [World.frozen?, hcs]
theorem last_mem {h : Nd} {P : List Nd} {i : Nat} (hi : i < h.steps) : lastAt h P i ∈ h :: P := by
  obtain ⟨A, R, e, _⟩ := lastAt_split (h := h) (P := P) hi
  rw [e]; simp
theorem last_cell {w : World} {X : Nat → List Nd} {h : Nd} {P : List Nd} {j : Nat} (hc : ChainF w X (h :: P)) (hj : j < 16) (hh : j < h.steps) : w.cell? ⟨(lastAt h P j).blk, 3 + j, none⟩ = some (ptr (nxt (X j) j)) := by
  obtain ⟨A, R, e, hs, hR⟩ := lastAt_split (h := h) (P := P) hh
  rw [e] at hc
  rw [chain_cell hc hj hs, nxt_app, nxt_none hR]
  rfl
theorem mem_all {h x : Nd} {key : ByteArray} {L : List Nd} (hx : x ∈ h :: below key L) : x ∈ h :: L := by
  rcases List.mem_cons.1 hx with h | h
  · simp [h]
  · have : x ∈ L := by rw [← below_above key L]; exact List.mem_append_left _ h
    simp [this]
theorem PutInv.drew {lb H : Nat} {S : Nat → Prop} {L : List Nd} {nn : Nd} {w0 w : World} {k : Nat} (h : PutInv lb H S L nn w0 w k) : PutInv lb H S L nn w0 w.drew k :=
  ⟨chainF_blk h.c1 (fun _ _ _ ho => ho), chainF_blk h.c2 (fun _ _ _ ho => ho), h.c3, h.list, ⟨h.fr.os, h.fr.tape, h.fr.output, h.fr.size, h.fr.blk⟩⟩
theorem PutInv.ends {lb H : Nat} {S : Nat → Prop} {L : List Nd} {nn : Nd} {w w1 : World} {k : Nat} (h : PutInv lb H S L nn w w1 k) (h0 : SkipAt lb H S L w) (hs : 1 ≤ nn.steps ∧ nn.steps ≤ 16) (hk : k = nn.steps) (hnew : getN nn.key L = none) (hB : w.heap.size ≤ nn.blk) :
    SkipAt lb H (UpS S w) (below nn.key L ++ nn :: above nn.key L) (w1.setCell ⟨lb, 1, none⟩ (.int .i64 ((L.length : Int) + 1))) ∧ FrT (UpS S w) w (w1.setCell ⟨lb, 1, none⟩ (.int .i64 ((L.length : Int) + 1))) := by
  subst hk
  rw [show ((L.length : Int) + 1) = ((L.length + 1 : Nat) : Int) by omega]
  have hne : ∀ b cs, w1.heap[b]? = some (.cells cs 116) → lb ≠ b := fun b cs hb e => by
    rw [← e, h.list] at hb
    simp at hb
  have hc : ∀ {X : Nat → List Nd} {P : List Nd}, ChainF w1 X P → ChainF (w1.setCell ⟨lb, 1, none⟩ (.int .i64 ((L.length + 1 : Nat) : Int))) X P := fun hx => chainF_blk hx (fun n hn o ho => by
    obtain ⟨cs, hcs⟩ := chain_blk hx n hn
    exact heap_set_other ho _ _ (hne _ _ hcs))
  refine ⟨h0.add nn hs hnew hB (fun _ h => .inl h) (.inr hB) ?_ (hc h.c1) (hc h.c2) ?_, ?_⟩
  · have := heap_set h.list 1 (.int .i64 ((L.length + 1 : Nat) : Int))
    exact this
  · refine heap_set_other ?_ _ _ (hne _ _ h.c3)
    rw [h.c3]
    congr 3
    funext i
    unfold up
    split <;> rfl
  · refine ⟨h.fr.os, h.fr.tape, h.fr.output, by simpa using h.fr.size, fun j o ho hn => ?_⟩
    refine heap_set_other (h.fr.blk j o ho hn) _ _ (fun e => ?_)
    simp only at e
    subst e
    have h5 := h.fr.blk lb o ho hn
    rw [h.list] at h5
    cases h5
    exact hn (.inl h0.sl) ⟨_, _, .inr rfl⟩
set_option maxHeartbeats 4000000 in
theorem put_new {lb H : Nat} {S : Nat → Prop} {L : List Nd} {w : World} (h : SkipAt lb H S L w) (key val : ByteArray) (s : Nat) (hs : 1 ≤ s ∧ s ≤ 16) (hlen : L.length < 4611686018427387904) (hnew : getN key L = none) :
    Calls Tryz.prog 32 #[.pointer (some ⟨lb, 0, none⟩), .string key, .string val, .int .i64 s] w fun e w' => e = .returned (.bool true) ∧ (∃ nn, nn.key = key ∧ nn.val = val ∧ SkipAt lb H (UpS S w) (below key L ++ nn :: above key L) w') ∧ FrT (UpS S w) w w' := by
  have HH := Lib.hid h
  have HN := Lib.hid (none_skip h.list)
  have hf := find_sk h key
  rw [hnew] at hf
  have HF := Lib.hid hf
  have HNW := Lib.hid hnew
  obtain ⟨hs1, hs2⟩ := hs
  clear h hnew hf
  go_enter Tryz.func32, Tryz.ntmps32
  simp only [ptr] at HF
  go_wp2_with (first | (go_at_call 63; refine HN.out.mono ?_; rintro e w1 ⟨rfl, rfl⟩) | (go_at_call 61; refine HF.out.mono ?_; rintro e w1 ⟨rfl, hg1⟩; have HG1 := Lib.hid hg1; clear hg1) | fail)
  have HA := Lib.hid (HH.out.gr (HG1.out.alloc (Obj.cells (nodeA ⟨w1.heap.size, key, val, s⟩ (fun i => .pointer none)) 116)))
  refine (ahead_any HA.out key).mono ?_
  rintro e w2 ⟨rfl, hg2⟩
  have HG2 := Lib.hid hg2
  clear hg2
  have HI0 : Hid (PutInv lb H S L ⟨w1.heap.size, key, val, s⟩ w w2 0) := by
    have hg := (HG1.out.alloc (Obj.cells (nodeA ⟨w1.heap.size, key, val, s⟩ (fun i => .pointer none)) 116)).trans HG2.out
    have hh := HH.out.gr hg
    have hc := hh.chain
    rw [← below_above key L, ← List.cons_append] at hc
    obtain ⟨p1, p2⟩ := chainF_app.1 hc
    exact Lib.hid ⟨by simpa using p1, p2, by simpa using HG2.out.blk (heap_alloc_new w1 _), hh.list, FrT.gr hg⟩
  have HND := Lib.hid HH.out.nd
  have HLT : Hid (∀ n ∈ hd0 H :: L, n.blk ≠ w1.heap.size) := Lib.hid (fun n hn => by
    have := chain_lt HH.out.chain n hn
    have := HG1.out.size
    omega)
  have HW1 := Lib.hid HG1.out.size
  generalize hB : w1.heap.size = B at *
  clear HA HG2 HG1 hB
  go_wp2
  go_loopw [40] (fun iv wr => ∃ k : Nat, iv = .int .i64 k ∧ k ≤ s ∧ k ≤ 16 ∧ Hid (PutInv lb H S L ⟨B, key, val, s⟩ w wr k)) (fun iv _ => 16 - (intOf iv).toNat)
  case atStart => exact ⟨0, rfl, by omega, by omega, HI0⟩
  case round =>
    obtain ⟨k, rfl, hk1, hk2, HI⟩ := hrel
    clear HI0
    by_cases hk : k < s
    · have hk16 : k < 16 := by omega
      have hix := run_index (hd0 H) (below key L) k hk16
      have HS := Lib.hid (HI.out.step hk hk16 HND.out HLT.out HH.out.sn HW1.out HH.out.sl)
      have c1 := last_cell HI.out.c1 hk16 (by simp [hd0]; exact hk16)
      have f1 := chain_frozen (i := 3 + k) HI.out.c1 (last_mem (h := hd0 H) (P := below key L) (i := k) (by simp [hd0]; exact hk16))
      have c2 := cell_of HI.out.c3 (i := 3 + k) (nodeA_get hk16)
      have f2 : wr.frozen? ⟨B, 3 + k, none⟩ = false := by simp [World.frozen?, HI.out.c3]
      have hne : (lastAt (hd0 H) (below key L) k).blk ≠ B := HLT.out _ (mem_all (last_mem (by simp [hd0]; exact hk16)))
      simp only [Nat.lt_irrefl, if_false] at c1 c2
      have hks : ((k : Int) == (s : Int)) = false := by rw [beq_eq_false_iff_ne]; omega
      generalize outA (hd0 H) (below key L) 0 = oa at *
      generalize (lastAt (hd0 H) (below key L) k).blk = ab at *
      have hne2 : B ≠ ab := fun e => hne e.symm
      cases hn : nxt (above key L) k with
      | none =>
        rw [hn] at c1 HS
        simp only [ptr] at c1 HS
        go_wp2
        go_region
        go_wp2
        go_roundw
        case rel => exact ⟨k + 1, by go_num, by omega, by omega, Lib.hid HS.out.drew⟩
        case measure => first | (simp [intOf]; done) | (simp [intOf]; omega)
      | some n =>
        rw [hn] at c1 HS
        simp only [ptr] at c1 HS
        go_wp2
        go_region
        go_wp2
        go_roundw
        case rel => exact ⟨k + 1, by go_num, by omega, by omega, Lib.hid HS.out.drew⟩
        case measure => first | (simp [intOf]; done) | (simp [intOf]; omega)
    · obtain rfl : k = s := by omega
      have hl1 := cell_of HI.out.list (i := 1) rfl
      have hl2 : wr.frozen? ⟨lb, 1, none⟩ = false := by simp [World.frozen?, HI.out.list]
      have HE := Lib.hid (HI.out.ends HH.out ⟨hs1, hs2⟩ rfl HNW.out HW1.out)
      by_cases h16 : k < 16
      · have hix := run_index (hd0 H) (below key L) k h16
        generalize outA (hd0 H) (below key L) 0 = oa at *
        go_wp2
        go_ret
        exact ⟨rfl, ⟨_, rfl, rfl, HE.out.1⟩, HE.out.2⟩
      · obtain rfl : k = 16 := by omega
        go_wp2
        go_ret
        exact ⟨rfl, ⟨_, rfl, rfl, HE.out.1⟩, HE.out.2⟩
end Go.Proofs.YtocijpeminghoaaGreatDoor
