/- Layer 9: lists on steps: Put. -/
import Derived.Test.YtocijpeminghoaaGreatDoorSkpB
import Derived.RegionTactic
namespace Go.Proofs.YtocijpeminghoaaGreatDoor
open Go.RowKit
set_option maxRecDepth 100000
set_option linter.unusedVariables false
set_option linter.unusedSimpArgs false
set_option linter.unnecessarySimpa false

def UpS (S : Nat → Prop) (w : World) (k : Nat) : Prop := S k ∨ w.heap.size ≤ k
theorem chainF_nxt {w : World} {X Y : Nat → List Nd} (h : ∀ i, i < 16 → ptr (nxt (X i) i) = ptr (nxt (Y i) i)) : ∀ {P : List Nd}, ChainF w X P → ChainF w Y P
  | [], _ => trivial
  | m :: R, ⟨h1, h2⟩ => by
    refine ⟨?_, chainF_nxt h h2⟩
    rw [h1]
    have : nodeA m (fun i => up m (R ++ X i) i) = nodeA m (fun i => up m (R ++ Y i) i) := by
      unfold nodeA
      congr 4
      refine List.map_congr_left (fun i hi => ?_)
      unfold up
      rw [nxt_app, nxt_app]
      cases nxt R i with
      | none => simp only [Option.none_or]; rw [h i (List.mem_range.1 hi)]
      | some x => rfl
    rw [this]
theorem chain_lt {w : World} {X : Nat → List Nd} : ∀ {P : List Nd}, ChainF w X P → ∀ n ∈ P, n.blk < w.heap.size
  | m :: R, ⟨h1, h2⟩, n, hn => by
    rcases List.mem_cons.1 hn with rfl | hn
    · exact (Array.getElem?_eq_some_iff.1 h1).1
    · exact chain_lt h2 n hn
theorem chain_blk {w : World} {X : Nat → List Nd} : ∀ {P : List Nd}, ChainF w X P → ∀ n ∈ P, ∃ cs, w.heap[n.blk]? = some (.cells cs 116)
  | m :: R, ⟨h1, h2⟩, n, hn => by
    rcases List.mem_cons.1 hn with rfl | hn
    · exact ⟨_, h1⟩
    · exact chain_blk h2 n hn
/-- the list with a node more -/
theorem SkipAt.add {lb H : Nat} {S S' : Nat → Prop} {L : List Nd} {w w' : World} (h : SkipAt lb H S L w) (nn : Nd) (hs : 1 ≤ nn.steps ∧ nn.steps ≤ 16) (hnew : getN nn.key L = none) (hB : w.heap.size ≤ nn.blk) (hS : ∀ k, S k → S' k) (hSB : S' nn.blk)
    (hlist : w'.heap[lb]? = some (.cells #[.pointer (some ⟨H, 0, none⟩), .int .i64 ((L.length + 1 : Nat) : Int)] 118)) (hc1 : ChainF w' (fun i => if i < nn.steps then nn :: above nn.key L else above nn.key L) (hd0 H :: below nn.key L)) (hc2 : ChainF w' (fun _ => []) (above nn.key L))
    (hc3 : w'.heap[nn.blk]? = some (.cells (nodeA nn (fun i => up nn (above nn.key L) i)) 116)) : SkipAt lb H S' (below nn.key L ++ nn :: above nn.key L) w' := by
  have hLe := below_above nn.key L
  refine ⟨?_, ?_, ?_, ?_, ?_, hS _ h.sl, ?_⟩
  · rw [hlist]
    have : (below nn.key L ++ nn :: above nn.key L).length = L.length + 1 := by
      have := congrArg List.length hLe
      simp only [List.length_append, List.length_cons] at this ⊢
      omega
    rw [this]
  · rw [← List.cons_append]
    refine chainF_app.2 ⟨chainF_nxt (fun i hi => ?_) hc1, ?_⟩
    · simp only [List.append_nil]
      split
      · rfl
      · rename_i hn
        simp only [nxt, List.find?_cons]
        rw [decide_eq_false (by omega)]
    · refine ⟨?_, hc2⟩
      rw [hc3]
      simp
  · have hr := h.rise
    rw [← hLe] at hr
    obtain ⟨r1, r2, r3⟩ := List.pairwise_append.1 hr
    refine List.pairwise_append.2 ⟨r1, List.pairwise_cons.2 ⟨fun x hx => ?_, r2⟩, fun a ha b hb => ?_⟩
    · have hge := above_ge h.rise x hx
      cases hc : klt nn.key x.key with
      | true => rfl
      | false =>
        exfalso
        have heq := bl_total _ _ hge hc
        cases ha : above nn.key L with
        | nil => rw [ha] at hx; simp at hx
        | cons y r =>
          have hy := above_ge h.rise y (by rw [ha]; simp)
          have hyx : y = x := by
            rw [ha] at hx r2
            rcases List.mem_cons.1 hx with rfl | hx
            · rfl
            · have := (List.pairwise_cons.1 r2).1 x hx
              have e2 : klt y.key nn.key = true := by
                show Op.bytesLess y.key.toList nn.key.toList = true
                rw [← heq]; exact this
              rw [hy] at e2; cases e2
          subst hyx
          unfold getN at hnew
          rw [ha] at hnew
          simp only [List.head?_cons] at hnew
          rw [if_pos (by simpa using heq)] at hnew
          cases hnew
    · rcases List.mem_cons.1 hb with rfl | hb
      · exact below_lt ha
      · exact r3 a ha b hb
  · have hnd := h.nd
    have hlt := chain_lt h.chain
    rw [← hLe] at hnd hlt
    rw [← List.cons_append, List.map_append] at hnd ⊢
    rw [List.map_cons]
    obtain ⟨n1, n2, n3⟩ := List.nodup_append.1 hnd
    have hne : ∀ x ∈ hd0 H :: (below nn.key L ++ above nn.key L), x.blk ≠ nn.blk := fun x hx e => by have := hlt x hx; omega
    refine List.nodup_append.2 ⟨n1, List.nodup_cons.2 ⟨fun hm => ?_, n2⟩, fun a ha b hb => ?_⟩
    · obtain ⟨x, hx, e⟩ := List.mem_map.1 hm
      exact hne x (by simp [hx]) e
    · rcases List.mem_cons.1 hb with rfl | hb
      · have ha' : a ∈ List.map (·.blk) (hd0 H :: below nn.key L) := ha
        obtain ⟨x, hx, e⟩ := List.mem_map.1 ha'
        rw [← e]
        exact hne x (by rcases List.mem_cons.1 hx with h | h <;> simp [h])
      · exact n3 a ha b hb
  · intro x hx
    rcases List.mem_append.1 hx with hx | hx
    · exact h.steps x (by rw [← hLe]; simp [hx])
    · rcases List.mem_cons.1 hx with rfl | hx
      · exact hs
      · exact h.steps x (by rw [← hLe]; simp [hx])
  · intro x hx
    rcases List.mem_cons.1 hx with rfl | hx
    · exact hS _ (h.sn _ (by simp))
    · rcases List.mem_append.1 hx with hx | hx
      · exact hS _ (h.sn x (by rw [← hLe]; simp [hx]))
      · rcases List.mem_cons.1 hx with rfl | hx
        · exact hSB
        · exact hS _ (h.sn x (by rw [← hLe]; simp [hx]))

theorem eqP_none (a : Addr) (w : World) : True := trivial
/-- a value that is set at a step of a node -/
theorem up_set {w : World} {b j : Nat} {nn : Nd} {f g : Nat → Value} {t : TypeId} (hb : w.heap[b]? = some (.cells (nodeA nn f) t)) (hj : j < 16) (h : ∀ i, i < 16 → i ≠ j → f i = g i) : (w.setCell ⟨b, 3 + j, none⟩ (g j)).heap[b]? = some (.cells (nodeA nn g) t) := by
  have := nodeA_set (n := nn) hj h
  rw [Array.set!_eq_setIfInBounds] at this
  rw [heap_set hb, this]
structure PutInv (lb H : Nat) (S : Nat → Prop) (L : List Nd) (nn : Nd) (w0 w : World) (k : Nat) : Prop where
  c1 : ChainF w (fun i => if i < k then nn :: above nn.key L else above nn.key L) (hd0 H :: below nn.key L)
  c2 : ChainF w (fun _ => []) (above nn.key L)
  c3 : w.heap[nn.blk]? = some (.cells (nodeA nn (fun i => if i < k then up nn (above nn.key L) i else .pointer none)) 116)
  list : w.heap[lb]? = some (.cells #[.pointer (some ⟨H, 0, none⟩), .int .i64 L.length] 118)
  fr : FrT (UpS S w0) w0 w
/-- one step -/
theorem PutInv.step {lb H : Nat} {S : Nat → Prop} {L : List Nd} {nn : Nd} {w0 w : World} {k : Nat} (h : PutInv lb H S L nn w0 w k) (hk : k < nn.steps) (hk16 : k < 16) (hnd : ((hd0 H :: L).map (·.blk)).Nodup) (hB : ∀ n ∈ hd0 H :: L, n.blk ≠ nn.blk) (hsn : ∀ n ∈ hd0 H :: L, S n.blk) (hBw : w0.heap.size ≤ nn.blk) (hlb : S lb)  :
    PutInv lb H S L nn w0 ((w.setCell ⟨nn.blk, 3 + k, none⟩ (ptr (nxt (above nn.key L) k))).setCell ⟨(lastAt (hd0 H) (below nn.key L) k).blk, 3 + k, none⟩ (.pointer (some ⟨nn.blk, 0, none⟩))) (k + 1) := by
  obtain ⟨A, R, e, hs, hR⟩ := lastAt_split (h := hd0 H) (P := below nn.key L) (i := k) (by simp [hd0]; exact hk16)
  have hLe := below_above nn.key L
  have hmem : lastAt (hd0 H) (below nn.key L) k ∈ hd0 H :: below nn.key L := by rw [e]; simp
  have hmemL : ∀ x, x ∈ hd0 H :: below nn.key L → x ∈ hd0 H :: L := fun x hx => by
    rcases List.mem_cons.1 hx with h | h
    · simp [h]
    · rw [← hLe]; simp [h]
  have hmemQ : ∀ x, x ∈ above nn.key L → x ∈ hd0 H :: L := fun x hx => by rw [← hLe]; simp [hx]
  have hnd' := hnd
  rw [← hLe, ← List.cons_append, List.map_append] at hnd'
  obtain ⟨n1, n2, n3⟩ := List.nodup_append.1 hnd'
  have hc1 : ChainF (w.setCell ⟨nn.blk, 3 + k, none⟩ (ptr (nxt (above nn.key L) k))) (fun i => if i < k then nn :: above nn.key L else above nn.key L) (hd0 H :: below nn.key L) :=
    chainF_blk h.c1 (fun n hn o ho => heap_set_other ho _ _ (fun e => hB n (hmemL n hn) e.symm))
  refine ⟨?_, ?_, ?_, ?_, ?_⟩
  · refine chainF_turn hc1 hk16 (by simp [hd0]; exact hk16) (fun i hi hne => ?_) n1 (fun A' R' e' => ?_) (fun j o hj ho => heap_set_other ho _ _ (fun e => hj e.symm))
    · by_cases h1 : i < k
      · rw [if_pos h1, if_pos (by omega)]
      · rw [if_neg h1, if_neg (by omega)]
    · have hc := hc1
      rw [e'] at hc
      have h1 := chainF_at hc
      rw [heap_set h1]
      congr 2
      rw [if_pos (by omega : k < k + 1)]
      simp only [nxt, List.find?_cons, decide_eq_true hk]
      rfl
  · refine chainF_blk h.c2 (fun n hn o ho => heap_set_other (heap_set_other ho _ _ (fun e => hB n (hmemQ n hn) e.symm)) _ _ (fun e => ?_))
    exact n3 _ (List.mem_map_of_mem hmem) _ (List.mem_map_of_mem hn) e
  · refine heap_set_other ?_ _ _ (fun e => hB _ (hmemL _ hmem) e)
    have := up_set (g := fun i => if i < k + 1 then up nn (above nn.key L) i else .pointer none) h.c3 hk16 (fun i hi hne => by
      by_cases h1 : i < k
      · rw [if_pos h1, if_pos (by omega)]
      · rw [if_neg h1, if_neg (by omega)])
    rw [if_pos (by omega), up_at hk] at this
    exact this
  · have hty : ∀ b cs, w.heap[b]? = some (.cells cs 116) → b ≠ lb := fun b cs hb e => by
      rw [e, h.list] at hb
      simp at hb
    refine heap_set_other (heap_set_other h.list _ _ ?_) _ _ ?_
    · exact hty _ _ h.c3
    · obtain ⟨cs, hcs⟩ := chain_blk h.c1 _ hmem
      exact hty _ _ hcs
  · have hset : ∀ (W : World) (b i : Nat) (v : Value), FrT (UpS S w0) w0 W → (w0.heap.size ≤ b ∨ (S b ∧ ∃ cs, W.heap[b]? = some (.cells cs 116))) → FrT (UpS S w0) w0 (W.setCell ⟨b, i, none⟩ v) := by
      intro W b i v hW hb
      refine ⟨hW.os, hW.tape, hW.output, by simpa using hW.size, fun j o ho hn => ?_⟩
      refine heap_set_other (hW.blk j o ho hn) _ _ (fun e => ?_)
      simp only at e
      subst e
      rcases hb with hb | ⟨hb, cs, hcs⟩
      · have := (Array.getElem?_eq_some_iff.1 ho).1
        omega
      · have h5 := hW.blk b o ho hn
        rw [hcs] at h5
        cases h5
        exact hn (.inl hb) ⟨cs, _, .inl rfl⟩
    refine hset _ _ _ _ (hset _ _ _ _ h.fr (.inl hBw)) (.inr ⟨hsn _ (hmemL _ hmem), ?_⟩)
    exact chain_blk hc1 _ hmem
end Go.Proofs.YtocijpeminghoaaGreatDoor
