/- Bytes: slices of the call's own, slices that are read; the laws on append over them. -/
import Derived.Test.YtocijpeminghoaaGreatDoorBase
import Derived.Laws.AppendOwnNone
import Derived.Lib.AppendStr
namespace Go.Proofs.YtocijpeminghoaaGreatDoor
open Go.RowKit
set_option linter.unusedVariables false
set_option linter.unusedSimpArgs false

def Own (w : World) (N : Nat) (v : Value) (l : List UInt8) : Prop := w.ownsRow N 5 1 v (nums l).length ((nums l).map (Value.int .u8))
def Rd (w : World) (v : Value) (l : List UInt8) : Prop :=
  (v = .slice none 0 0 ∧ l = []) ∨ ∃ blk off cap, v = .slice (some ⟨blk, off, none⟩) l.length cap ∧ l.length ≤ cap ∧ cap ≤ maxLen ∧ blk < w.heap.size ∧
    ∀ j (h : j < l.length), w.cell? ⟨blk, off + j, none⟩ = some (.int .u8 l[j].toNat)

theorem Own.nil (w : World) (N : Nat) : Own w N (.slice none 0 0) [] := World.ownsRow_nil _ _ _ _
theorem Own.gr {a b : World} (hg : Gr a b) {N : Nat} {v : Value} {l : List UInt8} (h : Own a N v l) : Own b N v l := Gr.ownsRow hg h
theorem Own.alloc {a : World} {N : Nat} {v : Value} {l : List UInt8} (h : Own a N v l) (o : Obj) : Own (a.alloc o) N v l := h.gr ((Gr.refl a).alloc o)
theorem Own.drew {a : World} {N : Nat} {v : Value} {l : List UInt8} (h : Own a N v l) : Own a.drew N v l := h.gr (Gr.refl a).drew
theorem Own.mono {a : World} {N N' : Nat} {v : Value} {l : List UInt8} (h : Own a N v l) (hN : N' ≤ N) : Own a N' v l := ownsRow_mono h hN
theorem Own.form {a : World} {N : Nat} {v : Value} {l : List UInt8} (h : Own a N v l) :
    (v = .slice none 0 0 ∧ l = []) ∨ ∃ g cap cur, v = .slice (some ⟨g, 0, none⟩) l.length cap ∧ N ≤ g ∧ a.heap[g]? = some (.cells cur 5 (0, 0)) ∧ l.length ≤ cap ∧ cap ≤ maxLen ∧ cur.size = cap ∧ cur.toList.take l.length = (nums l).map (Value.int .u8) := by
  rcases h.2 with ⟨h1, h2⟩ | ⟨g, cap, cur, h1, h2, h3, h4, h5, h6, h7⟩
  · exact .inl ⟨h1, List.eq_nil_of_length_eq_zero (by rwa [nums_length] at h2)⟩
  · rw [nums_length] at h1 h4 h7
    exact .inr ⟨g, cap, cur, h1, h2, h3, h4, h5, by simpa using h6, by simpa using h7⟩
theorem Own.rd {a : World} {N : Nat} {v : Value} {l : List UInt8} (h : Own a N v l) : Rd a v l := by
  rcases h.form with ⟨h1, h2⟩ | ⟨g, cap, cur, h1, h2, h3, h4, h5, h6, h7⟩
  · exact .inl ⟨h1, h2⟩
  · refine .inr ⟨g, 0, cap, h1, h4, h5, (Array.getElem?_eq_some_iff.1 h3).1, fun j hj => ?_⟩
    have e : (cur.toList.take l.length)[j]? = ((nums l).map (Value.int .u8))[j]? := by rw [h7]
    rw [List.getElem?_take, if_pos hj] at e
    simp only [World.cell?, h3, Nat.zero_add]
    simp only [nums, List.map_map, List.getElem?_map, List.getElem?_eq_getElem hj, Option.map_some, Array.getElem?_toList] at e
    simp [e]
theorem Rd.gr {a b : World} (hg : Gr a b) {v : Value} {l : List UInt8} (h : Rd a v l) : Rd b v l := by
  rcases h with h | ⟨blk, off, cap, h1, h2, h3, h4, h5⟩
  · exact .inl h
  · exact .inr ⟨blk, off, cap, h1, h2, h3, Nat.lt_of_lt_of_le h4 hg.size, fun j hj => hg.cell' (h5 j hj)⟩
theorem Rd.nil (w : World) : Rd w (.slice none 0 0) [] := .inl ⟨rfl, rfl⟩

theorem grownBy_refl (w : World) (r : Option Nat) : w.grownBy w r := ⟨rfl, rfl, rfl, Nat.le_refl _, fun _ _ _ => rfl⟩

/-- append(s, x...): s the call's own, x read -/
theorem app_rd {W : World} {N : Nat} (hN : N ≤ W.heap.size) {ops : Array Oper} {rest : List Oper} {o : Oper} {a : Act} {Q : Exit → Act → World → Prop} (hgd : o.guard = none) (s x : Operand)
    (ho : o.op = .call { callee := .builtin .append, args := #[s, x], argTypes := #[82, 82] }) {v y : Value} (xs l : List UInt8) (hs : a.eval s = v) (hx : a.eval x = y)
    (hown : Own W N v xs) (hrd : Rd W y l) (hlen : xs.length + l.length ≤ 140737488355328)
    (h : ∀ v' w', Own w' N v' (xs ++ l) → W.grownBy w' v.ownBlock → wpList Tryz.prog ops Q rest (a.put o.dst v') w') : wpList Tryz.prog ops Q (o :: rest) a W := by
  obtain ⟨i0, hi, hz0, hz1, hz2⟩ := info_parts info5
  rcases hrd with ⟨rfl, rfl⟩ | ⟨blk, off, cap, rfl, h2, h3, h4, h5⟩
  · refine wpList_append_own_none hgd s x 82 ho N 5 i0 1 Tryz.underlying82 hi v _ _ hs hown hx ?_
    exact h v W (by rw [List.append_nil]; exact hown) (grownBy_refl _ _)
  · refine wpList_append_own _ hgd s x 82 ho N 5 i0 (.int .u8 0) 1 1 Tryz.underlying82 hi hz0 hz1 hz2 rfl (by decide) v _ _ hs hown ⟨blk, off, none⟩ l.length cap ((nums l).map (Value.int .u8)) hx (by simp [nums_length])
      (fun j u hj => ?_) (fun u hu => ?_) (by rw [nums_length]; unfold maxLen; omega) (by rw [nums_length]; omega) hN ?_
    · rw [Addr.add_lit]
      have hj' : j < l.length := by
        have := (List.getElem?_eq_some_iff.1 hj).1
        simpa [nums_length] using this
      rw [h5 j hj']
      simp only [nums, List.map_map, List.getElem?_map, List.getElem?_eq_getElem hj', Option.map_some] at hj
      exact hj
    · obtain ⟨q, _, rfl⟩ := List.mem_map.1 hu; rfl
    · intro v' w' h1 h2 _
      refine h v' w' ?_ h2
      unfold Own
      rw [nums_append, List.map_append, List.length_append, nums_length l]
      exact h1

/-- append(s, x...): s the call's own, x a text -/
theorem app_str {W : World} {N : Nat} (hN : N ≤ W.heap.size) {ops : Array Oper} {rest : List Oper} {o : Oper} {a : Act} {Q : Exit → Act → World → Prop} (hgd : o.guard = none) (s x : Operand)
    (ho : o.op = .call { callee := .builtin .append, args := #[s, x], argTypes := #[82, 9] }) {v : Value} (xs : List UInt8) (t : ByteArray) (hs : a.eval s = v) (hx : a.eval x = .string t)
    (hown : Own W N v xs) (hlen : xs.length + t.size ≤ 140737488355328)
    (h : ∀ v' w', Own w' N v' (xs ++ t.data.toList) → W.grownBy w' v.ownBlock → wpList Tryz.prog ops Q rest (a.put o.dst v') w') : wpList Tryz.prog ops Q (o :: rest) a W := by
  obtain ⟨i0, hi, hz0, hz1, hz2⟩ := info_parts info5
  refine Lib.wpList_append_own_string _ hgd s x 82 9 ho N 5 i0 Tryz.underlying82 Tryz.underlying9 hi hz0 hz1 hz2 v _ _ hs hown t hx (by rw [nums_length]; unfold maxLen; omega) (by rw [nums_length]; omega) hN ?_
  intro v' w' h1 h2 _
  refine h v' w' ?_ h2
  unfold Own
  rw [nums_append, List.map_append, List.length_append, nums_length t.data.toList, show t.data.toList.length = t.size from Array.length_toList]
  have e : (nums t.data.toList).map (Value.int .u8) = Lib.strCells t := by simp [nums, Lib.strCells]
  rw [e]
  exact h1
theorem Own.grew {w0 W w' : World} (hg : Gr w0 W) {v : Value} {xs : List UInt8} (hown : Own W w0.heap.size v xs) (h : W.grownBy w' v.ownBlock) : Gr w0 w' :=
  hg.grown h (fun k hk => (World.ownsRow.lt hown k hk).1)

/-- string(b), b read -/
theorem conv_rd {W : World} {v : Value} {l : List UInt8} (h : Rd W v l) : (convert 82 9 v).run Tryz.prog W = .ok (.string ⟨l.toArray⟩) W := by
  rcases h with ⟨rfl, rfl⟩ | ⟨blk, off, cap, rfl, h2, h3, h4, h5⟩
  · exact run_convert_bytes_nil W 82 5 Tryz.underlying82 Tryz.underlying5 0 0 9 Tryz.underlying9
  · rw [← strOfNums_nums]
    refine run_convert_bytes_arg W 82 5 Tryz.underlying82 Tryz.underlying5 blk off l.length cap (nums l) (nums_length l) (fun i hi => ?_) 9 Tryz.underlying9
    rw [h5 i hi]
    simp [nums, List.getD, List.getElem?_eq_getElem hi]
theorem len_rd {W : World} {v : Value} {l : List UInt8} {ty : TypeId} (h : Rd W v l) : (Builtin.len_ #[82] ty #[v]).run Tryz.prog W = .ok (.int .i64 l.length) W := by
  rcases h with ⟨rfl, rfl⟩ | ⟨blk, off, cap, rfl, h2, h3, h4, h5⟩
  · simp [Builtin.len_, run_underlying Tryz.underlying82, go_sem]
  · simp [Builtin.len_, run_underlying Tryz.underlying82, go_sem]
end Go.Proofs.YtocijpeminghoaaGreatDoor
