/- Slices of the call's own, of whatever element: append from a slice that is read. -/
import Derived.Test.YtocijpeminghoaaGreatDoorShape
import Derived.Laws.AppendOwnNone
namespace Go.Proofs.YtocijpeminghoaaGreatDoor
open Go.RowKit
set_option linter.unusedVariables false

/-- an element type: the slice's type t, its own e, cells, zero, bytes -/
structure ElTy (t e : TypeId) (k : Nat) (z : Value) (by_ : Nat) : Prop where
  ht : Tryz.prog.underlying t = some (.slice e)
  info : (Tryz.prog.info? e).map (fun i => (i.zero, i.size, i.bytes)) = some (some z, k, by_)
  hz : z.cells.size = k
  hk : 0 < k
/-- how an element is written in cells -/
structure Enc {α : Type} (enc : α → List Value) (k : Nat) : Prop where
  len : ∀ a, (enc a).length = k
  one : ∀ a, ∀ u ∈ enc a, u.oneCell' = true
def RE {α : Type} (enc : α → List Value) (_ : World) (ds : List Value) (a : α) : Prop := ds = enc a
def OwnG {α : Type} (e : TypeId) (k : Nat) (enc : α → List Value) (w : World) (N : Nat) (v : Value) (l : List α) : Prop := w.ownsRow N e k v l.length (l.flatMap enc)

section
variable {α : Type} {enc : α → List Value} {k : Nat}
theorem flatMap_get (hk : 0 < k) (hl : ∀ a, (enc a).length = k) : ∀ (l : List α) (j : Nat) (u : Value), (l.flatMap enc)[j]? = some u → ∃ h : j / k < l.length, (enc l[j / k])[j % k]? = some u
  | [], j, u, h => by simp at h
  | a :: r, j, u, h => by
    rw [List.flatMap_cons] at h
    by_cases hj : j < k
    · rw [List.getElem?_append_left (by rw [hl]; exact hj)] at h
      have h0 : j / k = 0 := Nat.div_eq_of_lt hj
      refine ⟨by rw [h0]; simp, ?_⟩
      rw [Nat.mod_eq_of_lt hj]
      simpa [h0] using h
    · rw [List.getElem?_append_right (by rw [hl]; omega), hl] at h
      obtain ⟨h1, h2⟩ := flatMap_get hk hl r (j - k) u h
      have e1 : j / k = (j - k) / k + 1 := by rw [← Nat.add_div_right _ hk]; congr 1; omega
      have e2 : j % k = (j - k) % k := by rw [← Nat.mod_eq_sub_mod (by omega)]
      refine ⟨by rw [e1]; simpa using h1, ?_⟩
      rw [e2]
      simpa [e1] using h2
theorem flatMap_len (hl : ∀ a, (enc a).length = k) : ∀ l : List α, (l.flatMap enc).length = l.length * k
  | [] => by simp
  | a :: r => by rw [List.flatMap_cons, List.length_append, hl, flatMap_len hl r, List.length_cons, Nat.add_mul]; omega
theorem flatMap_at (hk : 0 < k) (hl : ∀ a, (enc a).length = k) (l : List α) (i j : Nat) (hi : i < l.length) (hj : j < k) : (l.flatMap enc)[i * k + j]? = (enc l[i])[j]? := by
  have hlt : i * k + j < (l.flatMap enc).length := by
    rw [flatMap_len hl]
    have : (i + 1) * k ≤ l.length * k := Nat.mul_le_mul_right k hi
    rw [Nat.add_mul] at this
    omega
  obtain ⟨h1, h2⟩ := flatMap_get hk hl l (i * k + j) _ (List.getElem?_eq_getElem hlt)
  have e1 : (i * k + j) / k = i := by rw [Nat.mul_comm, Nat.mul_add_div hk, Nat.div_eq_of_lt hj]; rfl
  have e2 : (i * k + j) % k = j := by rw [Nat.mul_comm, Nat.mul_add_mod, Nat.mod_eq_of_lt hj]
  rw [List.getElem?_eq_getElem hlt, ← h2]
  simp only [e1, e2]

theorem RdE.gr {a b : World} (hg : Gr a b) {v : Value} {l : List α} (h : RdR (RE enc) k a v l) : RdR (RE enc) k b v l := RdR.gr (fun _ _ _ _ _ h => h) hg h
theorem OwnG.nil {e : TypeId} (w : World) (N : Nat) : OwnG e k enc w N (.slice none 0 0) ([] : List α) := World.ownsRow_nil _ _ _ _
theorem OwnG.gr {e : TypeId} {a b : World} (hg : Gr a b) {N : Nat} {v : Value} {l : List α} (h : OwnG e k enc a N v l) : OwnG e k enc b N v l := Gr.ownsRow hg h
theorem OwnG.mono {e : TypeId} {a : World} {N N' : Nat} {v : Value} {l : List α} (h : OwnG e k enc a N v l) (hN : N' ≤ N) : OwnG e k enc a N' v l := ownsRow_mono h hN
theorem OwnG.grew {e : TypeId} {w0 W w' : World} (hg : Gr w0 W) {v : Value} {l : List α} (hown : OwnG e k enc W w0.heap.size v l) (h : W.grownBy w' v.ownBlock) : Gr w0 w' :=
  hg.grown h (fun j hj => (World.ownsRow.lt hown j hj).1)
theorem OwnG.slice {e : TypeId} {w : World} {N : Nat} {v : Value} {l : List α} (h : OwnG e k enc w N v l) : ∃ q c, v = .slice q l.length c := by
  rcases h.2 with ⟨rfl, hn⟩ | ⟨g, cap, cur, rfl, _⟩
  · exact ⟨none, 0, by rw [hn]⟩
  · exact ⟨_, _, rfl⟩
theorem OwnG.rd {e : TypeId} (hE : Enc enc k) (hk : 0 < k) {w : World} {N : Nat} {v : Value} {l : List α} (h : OwnG e k enc w N v l) : RdR (RE enc) k w v l := by
  rcases h.2 with ⟨rfl, hn⟩ | ⟨g, cap, cur, rfl, h1, h2, h3, h4, h5, h6⟩
  · exact .inl ⟨List.eq_nil_of_length_eq_zero hn, none, 0, rfl, by unfold maxLen; omega, fun _ => rfl⟩
  · by_cases h0 : l.length = 0
    · have : l = [] := List.eq_nil_of_length_eq_zero h0
      subst this
      exact .inl ⟨rfl, _, cap, rfl, h4, fun h => by simp at h⟩
    · refine .inr ⟨g, 0, cap, rfl, by omega, h3, h4, (Array.getElem?_eq_some_iff.1 h2).1, fun i hi => ⟨enc l[i], hE.len _, fun j hj => ?_, rfl⟩⟩
      rw [hE.len] at hj
      have hlt : i * k + j < l.length * k := by
        have : (i + 1) * k ≤ l.length * k := Nat.mul_le_mul_right k hi
        rw [Nat.add_mul] at this
        omega
      have e1 : (cur.toList.take (l.length * k))[i * k + j]? = (l.flatMap enc)[i * k + j]? := by rw [h6]
      rw [List.getElem?_take, if_pos hlt, flatMap_at hk hE.len l i j hi hj] at e1
      have e2 : (enc l[i])[j]? = some ((enc l[i])[j]'(by rw [hE.len]; exact hj)) := List.getElem?_eq_getElem (by rw [hE.len]; exact hj)
      rw [e2] at e1
      simp only [World.cell?, h2, Nat.zero_add]
      simpa using e1

theorem OwnG.kept {e : TypeId} {w w' : World} {N : Nat} {v : Value} {l : List α} (h : OwnG e k enc w N v l) (hb : ∀ (g : Nat) (c : Array Value) (f : Nat × Nat), w.heap[g]? = some (Obj.cells c e f) → w'.heap[g]? = some (Obj.cells c e f)) : OwnG e k enc w' N v l := by
  refine ⟨h.1, ?_⟩
  rcases h.2 with h1 | ⟨g, cap, cur, h1, h2, h3, h4⟩
  · exact .inl h1
  · exact .inr ⟨g, cap, cur, h1, h2, hb g cur _ h3, h4⟩

/-- append(s, x...): s the call's own, x read -/
theorem app_gen {t e : TypeId} {z : Value} {by_ : Nat} (hT : ElTy t e k z by_) (hE : Enc enc k) {W : World} {N : Nat} (hN : N ≤ W.heap.size) {ops : Array Oper} {rest : List Oper} {o : Oper} {a : Act} {Q : Exit → Act → World → Prop} (hgd : o.guard = none) (s x : Operand)
    (ho : o.op = .call { callee := .builtin .append, args := #[s, x], argTypes := #[t, t] }) {v y : Value} (xs l : List α) (hs : a.eval s = v) (hx : a.eval x = y)
    (hown : OwnG e k enc W N v xs) (hrd : RdR (RE enc) k W y l) (hlen : (xs.length + l.length) * by_ ≤ 140737488355328) (hlen2 : xs.length + l.length ≤ 140737488355328)
    (h : ∀ v' w', OwnG e k enc w' N v' (xs ++ l) → W.grownBy w' v.ownBlock → wpList Tryz.prog ops Q rest (a.put o.dst v') w') : wpList Tryz.prog ops Q (o :: rest) a W := by
  obtain ⟨i0, hi, hz0, hz1, hz2⟩ := info_parts hT.info
  have done : ∀ v' w', w'.ownsRow N e k v' (xs.length + l.length) (xs.flatMap enc ++ l.flatMap enc) → W.grownBy w' v.ownBlock → wpList Tryz.prog ops Q rest (a.put o.dst v') w' := by
    intro v' w' h1 h2
    refine h v' w' ?_ h2
    unfold OwnG
    rw [List.flatMap_append, List.length_append]
    exact h1
  rcases hrd with ⟨rfl, q, c, rfl, h1, h2⟩ | ⟨blk, off, cap, rfl, h1, h2, h3, h4, h5⟩
  · cases q with
    | none =>
      obtain rfl : c = 0 := h2 rfl
      refine wpList_append_own_none hgd s x t ho N e i0 k hT.ht hi v _ _ hs hown hx ?_
      exact done v W (by simpa [OwnG] using hown) ⟨rfl, rfl, rfl, Nat.le_refl _, fun _ _ _ => rfl⟩
    | some q =>
      refine wpList_append_own _ hgd s x t ho N e i0 z k by_ hT.ht hi hz0 hz1 hz2 hT.hz hT.hk v _ _ hs hown q 0 c [] hx (by simp) (fun j u hj => by simp at hj) (fun u hu => by simp at hu) (by unfold maxLen; simp at hlen2 ⊢; omega) (by simpa using hlen) hN ?_
      intro v' w' h1 h2 _
      exact done v' w' (by simpa using h1) h2
  · refine wpList_append_own _ hgd s x t ho N e i0 z k by_ hT.ht hi hz0 hz1 hz2 hT.hz hT.hk v _ _ hs hown ⟨blk, off, none⟩ l.length cap (l.flatMap enc) hx (flatMap_len hE.len l) (fun j u hj => ?_) (fun u hu => ?_) (by unfold maxLen; omega) hlen hN ?_
    · obtain ⟨g1, g2⟩ := flatMap_get hT.hk hE.len l j u hj
      obtain ⟨ds, d1, d2, d3⟩ := h5 (j / k) g1
      unfold RE at d3
      subst d3
      have hjk : j % k < (enc l[j / k]).length := by rw [hE.len]; exact Nat.mod_lt _ hT.hk
      have := d2 (j % k) hjk
      rw [show j / k * k + j % k = j by rw [Nat.mul_comm]; exact Nat.div_add_mod j k] at this
      rw [Addr.add_lit, this]
      rw [List.getElem?_eq_getElem hjk] at g2
      exact g2
    · obtain ⟨b, _, hb⟩ := List.mem_flatMap.1 hu
      exact hE.one b u hb
    · intro v' w' h1 h2 _
      exact done v' w' h1 h2

/-- a block that holds one element, as the slice of it -/
theorem RdE.one (hE : Enc enc k) (W : World) (e : TypeId) (x : α) {n : Nat} (hn : n = W.heap.size) {cs : Array Value} (hc : cs = (enc x).toArray) : RdR (RE enc) k (W.alloc (.cells cs e)) (.slice (some ⟨n, 0, none⟩) 1 1) [x] := by
  subst hn hc
  refine .inr ⟨W.heap.size, 0, 1, rfl, by simp, by simp, by decide, by simp, fun i hi => ?_⟩
  obtain rfl : i = 0 := by simpa using hi
  refine ⟨enc x, hE.len x, fun j hj => ?_, rfl⟩
  simp only [World.cell?, heap_alloc_new]
  simp [List.getElem?_eq_getElem hj]
end
end Go.Proofs.YtocijpeminghoaaGreatDoor
