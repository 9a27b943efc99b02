/- What the rows stand on, part 09: By, SkpB, SkpC, SkpD. Printed by bundle.py out of my texts. -/
import Derived.Test.YthgecojbggoniaaGreatDoorBe01
import Derived.Test.YthgecojbggoniaaGreatDoorBe08
import Derived.Laws.AppendOwnNone
import Derived.Lib.AppendStr
import Derived.RegionTactic
namespace Go.Proofs.YthgecojbggoniaaGreatDoor
open Go.RowKit
set_option linter.unusedVariables false
set_option linter.unusedSimpArgs false

def Own (w : World) (N : Nat) (v : Value) (l : List UInt8) : Prop := w.ownsRow N 5 1 v (nums l).length ((nums l).map (Value.int .u8))
def Rd (w : World) (v : Value) (l : List UInt8) : Prop :=
  (v = .slice none 0 0 ∧ l = []) ∨ ∃ blk off cap, v = .slice (some ⟨blk, off, none⟩) l.length cap ∧ l.length ≤ cap ∧ cap ≤ maxLen ∧ blk < w.heap.size ∧
    ∀ j (h : j < l.length), w.cell? ⟨blk, off + j, none⟩ = some (.int .u8 l[j].toNat)

theorem Own.nil (w : World) (N : Nat) : Own w N (.slice none 0 0) [] := World.ownsRow_nil _ _ _ _
theorem Own.gr {a b : World} (hg : Gr a b) {N : Nat} {v : Value} {l : List UInt8} (h : Own a N v l) : Own b N v l := Gr.ownsRow hg h
theorem Own.alloc {a : World} {N : Nat} {v : Value} {l : List UInt8} (h : Own a N v l) (o : Obj) : Own (a.alloc o) N v l := h.gr ((Gr.refl a).alloc o)
theorem Own.drew {a : World} {N : Nat} {v : Value} {l : List UInt8} (h : Own a N v l) : Own a.drew N v l := h.gr (Gr.refl a).drew
theorem Own.mono {a : World} {N N' : Nat} {v : Value} {l : List UInt8} (h : Own a N v l) (hN : N' ≤ N) : Own a N' v l := ownsRow_mono h hN
theorem Own.form {a : World} {N : Nat} {v : Value} {l : List UInt8} (h : Own a N v l) :
    (v = .slice none 0 0 ∧ l = []) ∨ ∃ g cap cur, v = .slice (some ⟨g, 0, none⟩) l.length cap ∧ N ≤ g ∧ a.heap[g]? = some (.cells cur 5 (0, 0)) ∧ l.length ≤ cap ∧ cap ≤ maxLen ∧ cur.size = cap ∧ cur.toList.take l.length = (nums l).map (Value.int .u8) := by
  rcases h.2 with ⟨h1, h2⟩ | ⟨g, cap, cur, h1, h2, h3, h4, h5, h6, h7⟩
  · exact .inl ⟨h1, List.eq_nil_of_length_eq_zero (by rwa [nums_length] at h2)⟩
  · rw [nums_length] at h1 h4 h7
    exact .inr ⟨g, cap, cur, h1, h2, h3, h4, h5, by simpa using h6, by simpa using h7⟩
theorem Own.rd {a : World} {N : Nat} {v : Value} {l : List UInt8} (h : Own a N v l) : Rd a v l := by
  rcases h.form with ⟨h1, h2⟩ | ⟨g, cap, cur, h1, h2, h3, h4, h5, h6, h7⟩
  · exact .inl ⟨h1, h2⟩
  · refine .inr ⟨g, 0, cap, h1, h4, h5, (Array.getElem?_eq_some_iff.1 h3).1, fun j hj => ?_⟩
    have e : (cur.toList.take l.length)[j]? = ((nums l).map (Value.int .u8))[j]? := by rw [h7]
    rw [List.getElem?_take, if_pos hj] at e
    simp only [World.cell?, h3, Nat.zero_add]
    simp only [nums, List.map_map, List.getElem?_map, List.getElem?_eq_getElem hj, Option.map_some, Array.getElem?_toList] at e
    simp [e]
theorem Rd.gr {a b : World} (hg : Gr a b) {v : Value} {l : List UInt8} (h : Rd a v l) : Rd b v l := by
  rcases h with h | ⟨blk, off, cap, h1, h2, h3, h4, h5⟩
  · exact .inl h
  · exact .inr ⟨blk, off, cap, h1, h2, h3, Nat.lt_of_lt_of_le h4 hg.size, fun j hj => hg.cell' (h5 j hj)⟩
theorem Rd.nil (w : World) : Rd w (.slice none 0 0) [] := .inl ⟨rfl, rfl⟩

theorem grownBy_refl (w : World) (r : Option Nat) : w.grownBy w r := ⟨rfl, rfl, rfl, Nat.le_refl _, fun _ _ _ => rfl⟩

/-- append(s, x...): s the call's own, x read -/
theorem app_rd {W : World} {N : Nat} (hN : N ≤ W.heap.size) {ops : Array Oper} {rest : List Oper} {o : Oper} {a : Act} {Q : Exit → Act → World → Prop} (hgd : o.guard = none) (s x : Operand)
    (ho : o.op = .call { callee := .builtin .append, args := #[s, x], argTypes := #[133, 133] }) {v y : Value} (xs l : List UInt8) (hs : a.eval s = v) (hx : a.eval x = y)
    (hown : Own W N v xs) (hrd : Rd W y l) (hlen : xs.length + l.length ≤ 140737488355328)
    (h : ∀ v' w', Own w' N v' (xs ++ l) → W.grownBy w' v.ownBlock → wpList Tryz.prog ops Q rest (a.put o.dst v') w') : wpList Tryz.prog ops Q (o :: rest) a W := by
  obtain ⟨i0, hi, hz0, hz1, hz2⟩ := info_parts info5
  rcases hrd with ⟨rfl, rfl⟩ | ⟨blk, off, cap, rfl, h2, h3, h4, h5⟩
  · refine wpList_append_own_none hgd s x 133 ho N 5 i0 1 Tryz.underlying133 hi v _ _ hs hown hx ?_
    exact h v W (by rw [List.append_nil]; exact hown) (grownBy_refl _ _)
  · refine wpList_append_own _ hgd s x 133 ho N 5 i0 (.int .u8 0) 1 1 Tryz.underlying133 hi hz0 hz1 hz2 rfl (by decide) v _ _ hs hown ⟨blk, off, none⟩ l.length cap ((nums l).map (Value.int .u8)) hx (by simp [nums_length])
      (fun j u hj => ?_) (fun u hu => ?_) (by rw [nums_length]; unfold maxLen; omega) (by rw [nums_length]; omega) hN ?_
    · rw [Addr.add_lit]
      have hj' : j < l.length := by
        have := (List.getElem?_eq_some_iff.1 hj).1
        simpa [nums_length] using this
      rw [h5 j hj']
      simp only [nums, List.map_map, List.getElem?_map, List.getElem?_eq_getElem hj', Option.map_some] at hj
      exact hj
    · obtain ⟨q, _, rfl⟩ := List.mem_map.1 hu; rfl
    · intro v' w' h1 h2 _
      refine h v' w' ?_ h2
      unfold Own
      rw [nums_append, List.map_append, List.length_append, nums_length l]
      exact h1

/-- append(s, x...): s the call's own, x a text -/
theorem app_str {W : World} {N : Nat} (hN : N ≤ W.heap.size) {ops : Array Oper} {rest : List Oper} {o : Oper} {a : Act} {Q : Exit → Act → World → Prop} (hgd : o.guard = none) (s x : Operand)
    (ho : o.op = .call { callee := .builtin .append, args := #[s, x], argTypes := #[133, 9] }) {v : Value} (xs : List UInt8) (t : ByteArray) (hs : a.eval s = v) (hx : a.eval x = .string t)
    (hown : Own W N v xs) (hlen : xs.length + t.size ≤ 140737488355328)
    (h : ∀ v' w', Own w' N v' (xs ++ t.data.toList) → W.grownBy w' v.ownBlock → wpList Tryz.prog ops Q rest (a.put o.dst v') w') : wpList Tryz.prog ops Q (o :: rest) a W := by
  obtain ⟨i0, hi, hz0, hz1, hz2⟩ := info_parts info5
  refine Lib.wpList_append_own_string _ hgd s x 133 9 ho N 5 i0 Tryz.underlying133 Tryz.underlying9 hi hz0 hz1 hz2 v _ _ hs hown t hx (by rw [nums_length]; unfold maxLen; omega) (by rw [nums_length]; omega) hN ?_
  intro v' w' h1 h2 _
  refine h v' w' ?_ h2
  unfold Own
  rw [nums_append, List.map_append, List.length_append, nums_length t.data.toList, show t.data.toList.length = t.size from Array.length_toList]
  have e : (nums t.data.toList).map (Value.int .u8) = Lib.strCells t := by simp [nums, Lib.strCells]
  rw [e]
  exact h1
theorem Own.grew {w0 W w' : World} (hg : Gr w0 W) {v : Value} {xs : List UInt8} (hown : Own W w0.heap.size v xs) (h : W.grownBy w' v.ownBlock) : Gr w0 w' :=
  hg.grown h (fun k hk => (World.ownsRow.lt hown k hk).1)

/-- string(b), b read -/
theorem conv_rd {W : World} {v : Value} {l : List UInt8} (h : Rd W v l) : (convert 133 9 v).run Tryz.prog W = .ok (.string ⟨l.toArray⟩) W := by
  rcases h with ⟨rfl, rfl⟩ | ⟨blk, off, cap, rfl, h2, h3, h4, h5⟩
  · exact run_convert_bytes_nil W 133 5 Tryz.underlying133 Tryz.underlying5 0 0 9 Tryz.underlying9
  · rw [← strOfNums_nums]
    refine run_convert_bytes_arg W 133 5 Tryz.underlying133 Tryz.underlying5 blk off l.length cap (nums l) (nums_length l) (fun i hi => ?_) 9 Tryz.underlying9
    rw [h5 i hi]
    simp [nums, List.getD, List.getElem?_eq_getElem hi]
theorem len_rd {W : World} {v : Value} {l : List UInt8} {ty : TypeId} (h : Rd W v l) : (Builtin.len_ #[133] ty #[v]).run Tryz.prog W = .ok (.int .i64 l.length) W := by
  rcases h with ⟨rfl, rfl⟩ | ⟨blk, off, cap, rfl, h2, h3, h4, h5⟩
  · simp [Builtin.len_, run_underlying Tryz.underlying133, go_sem]
  · simp [Builtin.len_, run_underlying Tryz.underlying133, go_sem]
end Go.Proofs.YthgecojbggoniaaGreatDoor
namespace Go.Proofs.YthgecojbggoniaaGreatDoor
open Go.RowKit
set_option maxRecDepth 100000
set_option linter.unusedVariables false
set_option linter.unusedSimpArgs false
set_option linter.unnecessarySimpa false

/-- the last node below a key, and what stands behind it -/
theorem last_next {lb H : Nat} {S : Nat → Prop} {L : List Nd} {w : World} (h : SkipAt lb H S L w) (key : ByteArray) : w.cell? ⟨(lastAt (hd0 H) (below key L) 0).blk, 3, none⟩ = some (ptr (above key L).head?) := by
  obtain ⟨A, R, e, h1, h2⟩ := lastAt_split (h := hd0 H) (P := below key L) (i := 0) (by simp [hd0])
  have hR : R = [] := by
    cases R with
    | nil => rfl
    | cons x r =>
      have hx := h2 x (by simp)
      have hm : x ∈ below key L := tail_mem e (by simp)
      have := (h.steps x (by rw [← below_above key L]; simp [hm])).1
      omega
  subst hR
  have hc := h.chain
  rw [show hd0 H :: L = A ++ lastAt (hd0 H) (below key L) 0 :: above key L by rw [← below_above key L, ← List.cons_append, e, below_above]; simp] at hc
  have := chain_cell (j := 0) hc (by decide) h1
  rw [this]
  simp only [List.append_nil]
  congr 1
  unfold nxt
  cases hq : above key L with
  | nil => rfl
  | cons x r =>
    have := (h.steps x (by rw [← below_above key L, hq]; simp)).1
    have h0 : decide (0 < x.steps) = true := by rw [decide_eq_true_iff]; omega
    simp only [List.find?_cons, h0, List.head?_cons]
theorem run_index (h : Nd) (P : List Nd) (j : Nat) (hj : j < 16) (w : World) : (Instr.index 148 (.agg (outA h P 0)) (.int .i64 j)).run Tryz.prog w = .ok (.pointer (some ⟨(lastAt h P j).blk, 0, none⟩)) w := by
  obtain rfl | rfl | rfl | rfl | rfl | rfl | rfl | rfl | rfl | rfl | rfl | rfl | rfl | rfl | rfl | rfl : j = 0 ∨ j = 1 ∨ j = 2 ∨ j = 3 ∨ j = 4 ∨ j = 5 ∨ j = 6 ∨ j = 7 ∨ j = 8 ∨ j = 9 ∨ j = 10 ∨ j = 11 ∨ j = 12 ∨ j = 13 ∨ j = 14 ∨ j = 15 := by omega
  all_goals kernel_rfl
def getN (key : ByteArray) (L : List Nd) : Option Nd := match (above key L).head? with | some n => if n.key.toList == key.toList then some n else none | none => none
theorem find_sk {lb H : Nat} {S : Nat → Prop} {L : List Nd} {w : World} (h : SkipAt lb H S L w) (key : ByteArray) :
    Calls Tryz.prog 81 #[.pointer (some ⟨lb, 0, none⟩), .string key] w fun e w' => e = .returned (ptr (getN key L)) ∧ Gr w w' := by
  have HH := Lib.hid h
  have HN := Lib.hid (none_skip h.list)
  have HA := Lib.hid (ahead_any h key)
  have HL := Lib.hid (last_next h key)
  clear h
  have hix : ∀ w, (Instr.index 148 (.agg (outA (hd0 H) (below key L) 0)) (.int .i64 0)).run Tryz.prog w = .ok (.pointer (some ⟨(lastAt (hd0 H) (below key L) 0).blk, 0, none⟩)) w := run_index _ _ 0 (by decide)
  have HK : Hid (∀ n, (above key L).head? = some n → w.cell? ⟨n.blk, 0, none⟩ = some (.string n.key)) := Lib.hid (fun n hn => by
    obtain ⟨r, hr⟩ : ∃ r, above key L = n :: r := by
      cases hq : above key L with
      | nil => rw [hq] at hn; simp at hn
      | cons x r => rw [hq] at hn; simp at hn; subst hn; exact ⟨r, rfl⟩
    refine chain_key (A := hd0 H :: below key L) (R := r) (X := fun _ => []) ?_
    have := HH.out.chain
    rwa [← below_above key L, hr, ← List.cons_append] at this)
  generalize outA (hd0 H) (below key L) 0 = oa at *
  generalize (lastAt (hd0 H) (below key L) 0).blk = lb0 at *
  cases hq : (above key L).head? with
  | none =>
    have hr : getN key L = none := by unfold getN; rw [hq]
    rw [hr]
    have c0 := HL.out
    rw [hq] at c0
    simp only [ptr] at c0 ⊢
    clear hr hq HL HK
    go_enter Tryz.func81, Tryz.ntmps81
    go_wp2_with (first | (go_at_call 85; refine HN.out.mono ?_; rintro e w1 ⟨rfl, rfl⟩) | (go_at_call 84; refine HA.out.mono ?_; rintro e w1 ⟨rfl, hg1⟩; have c1 := hg1.cell' c0))
    go_ret
    exact ⟨rfl, hg1⟩
  | some n =>
    have c0 := HL.out
    rw [hq] at c0
    have ck := HK.out n hq
    simp only [ptr] at c0 ⊢
    cases hk : n.key.toList == key.toList with
    | true =>
      have hr : getN key L = some n := by unfold getN; rw [hq]; simp only [hk, if_true]
      rw [hr]
      clear hr hq HL HK
      go_enter Tryz.func81, Tryz.ntmps81
      go_wp2_with (first | (go_at_call 85; refine HN.out.mono ?_; rintro e w1 ⟨rfl, rfl⟩) | (go_at_call 84; refine HA.out.mono ?_; rintro e w1 ⟨rfl, hg1⟩; have c1 := hg1.cell' c0; have c2 := hg1.cell' ck))
      go_ret
      exact ⟨rfl, hg1⟩
    | false =>
      have hr : getN key L = none := by unfold getN; rw [hq]; simp [hk]
      rw [hr]
      clear hr hq HL HK
      go_enter Tryz.func81, Tryz.ntmps81
      go_wp2_with (first | (go_at_call 85; refine HN.out.mono ?_; rintro e w1 ⟨rfl, rfl⟩) | (go_at_call 84; refine HA.out.mono ?_; rintro e w1 ⟨rfl, hg1⟩; have c1 := hg1.cell' c0; have c2 := hg1.cell' ck))
      go_ret
      exact ⟨rfl, hg1⟩
/-- the first key at or above one -/
theorem first_sk {lb H : Nat} {S : Nat → Prop} {L : List Nd} {w : World} (h : SkipAt lb H S L w) (key : ByteArray) :
    Calls Tryz.prog 74 #[.pointer (some ⟨lb, 0, none⟩), .string key] w fun e w' => e = .returned (.tuple (match (above key L).head? with | some n => #[.string n.key, .bool true] | none => #[.string ⟨#[]⟩, .bool false])) ∧ Gr w w' := by
  have HH := Lib.hid h
  have HN := Lib.hid (none_skip h.list)
  have HA := Lib.hid (ahead_any h key)
  have HL := Lib.hid (last_next h key)
  clear h
  have hix : ∀ w, (Instr.index 148 (.agg (outA (hd0 H) (below key L) 0)) (.int .i64 0)).run Tryz.prog w = .ok (.pointer (some ⟨(lastAt (hd0 H) (below key L) 0).blk, 0, none⟩)) w := run_index _ _ 0 (by decide)
  have HK : Hid (∀ n, (above key L).head? = some n → w.cell? ⟨n.blk, 0, none⟩ = some (.string n.key)) := Lib.hid (fun n hn => by
    obtain ⟨r, hr⟩ : ∃ r, above key L = n :: r := by
      cases hq : above key L with
      | nil => rw [hq] at hn; simp at hn
      | cons x r => rw [hq] at hn; simp at hn; subst hn; exact ⟨r, rfl⟩
    refine chain_key (A := hd0 H :: below key L) (R := r) (X := fun _ => []) ?_
    have := HH.out.chain
    rwa [← below_above key L, hr, ← List.cons_append] at this)
  generalize outA (hd0 H) (below key L) 0 = oa at *
  generalize (lastAt (hd0 H) (below key L) 0).blk = lb0 at *
  cases hq : (above key L).head? with
  | none =>
    have c0 := HL.out
    rw [hq] at c0
    simp only [ptr] at c0 ⊢
    clear hq HL HK
    go_enter Tryz.func74, Tryz.ntmps74
    go_wp2_with (first | (go_at_call 85; refine HN.out.mono ?_; rintro e w1 ⟨rfl, rfl⟩) | (go_at_call 84; refine HA.out.mono ?_; rintro e w1 ⟨rfl, hg1⟩; have c1 := hg1.cell' c0))
    go_ret2
    exact ⟨rfl, hg1⟩
  | some n =>
    have c0 := HL.out
    rw [hq] at c0
    have ck := HK.out n hq
    simp only [ptr] at c0 ⊢
    clear hq HL HK
    go_enter Tryz.func74, Tryz.ntmps74
    go_wp2_with (first | (go_at_call 85; refine HN.out.mono ?_; rintro e w1 ⟨rfl, rfl⟩) | (go_at_call 84; refine HA.out.mono ?_; rintro e w1 ⟨rfl, hg1⟩; have c1 := hg1.cell' c0; have c2 := hg1.cell' ck))
    go_ret2
    exact ⟨rfl, hg1⟩
theorem getN_mem {key : ByteArray} {L : List Nd} {n : Nd} (h : getN key L = some n) : (∃ r, above key L = n :: r) ∧ n.key = key := by
  unfold getN at h
  cases hq : above key L with
  | nil => rw [hq] at h; simp at h
  | cons x r =>
    rw [hq] at h
    simp only [List.head?_cons] at h
    split at h
    · rename_i hk
      cases h
      refine ⟨⟨r, rfl⟩, ?_⟩
      have := eq_of_beq hk
      rw [ByteArray.toList_eq, ByteArray.toList_eq] at this
      exact ba_ext this
    · cases h
theorem get_sk {lb H : Nat} {S : Nat → Prop} {L : List Nd} {w : World} (h : SkipAt lb H S L w) (key : ByteArray) :
    Calls Tryz.prog 51 #[.pointer (some ⟨lb, 0, none⟩), .string key] w fun e w' => e = .returned (.tuple (match getN key L with | some n => #[.string n.val, .bool true] | none => #[.string ⟨#[]⟩, .bool false])) ∧ Gr w w' := by
  have HF := Lib.hid (find_sk h key)
  have HK : Hid (∀ n, getN key L = some n → w.cell? ⟨n.blk, 1, none⟩ = some (.string n.val)) := Lib.hid (fun n hn => by
    obtain ⟨⟨r, hr⟩, _⟩ := getN_mem hn
    have hc := h.chain
    rw [← below_above key L, hr, ← List.cons_append] at hc
    have h1 := chainF_at hc
    exact cell_of h1 rfl)
  clear h
  cases hq : getN key L with
  | none =>
    rw [hq] at HF
    simp only [ptr] at HF ⊢
    clear hq HK
    go_enter Tryz.func51, Tryz.ntmps51
    go_wp2_with (go_at_call 81; refine HF.out.mono ?_; rintro e w1 ⟨rfl, hg1⟩)
    go_ret2
    exact ⟨rfl, hg1⟩
  | some n =>
    have ck := HK.out n hq
    rw [hq] at HF
    simp only [ptr] at HF ⊢
    clear hq HK
    go_enter Tryz.func51, Tryz.ntmps51
    go_wp2_with (go_at_call 81; refine HF.out.mono ?_; rintro e w1 ⟨rfl, hg1⟩; have c1 := hg1.cell' ck)
    go_ret2
    exact ⟨rfl, hg1⟩
end Go.Proofs.YthgecojbggoniaaGreatDoor
namespace Go.Proofs.YthgecojbggoniaaGreatDoor
open Go.RowKit
set_option maxRecDepth 100000
set_option linter.unusedVariables false
set_option linter.unusedSimpArgs false
set_option linter.unnecessarySimpa false

def UpS (S : Nat → Prop) (w : World) (k : Nat) : Prop := S k ∨ w.heap.size ≤ k
theorem chainF_nxt {w : World} {X Y : Nat → List Nd} (h : ∀ i, i < 16 → ptr (nxt (X i) i) = ptr (nxt (Y i) i)) : ∀ {P : List Nd}, ChainF w X P → ChainF w Y P
  | [], _ => trivial
  | m :: R, ⟨h1, h2⟩ => by
    refine ⟨?_, chainF_nxt h h2⟩
    rw [h1]
    have : nodeA m (fun i => up m (R ++ X i) i) = nodeA m (fun i => up m (R ++ Y i) i) := by
      unfold nodeA
      congr 4
      refine List.map_congr_left (fun i hi => ?_)
      unfold up
      rw [nxt_app, nxt_app]
      cases nxt R i with
      | none => simp only [Option.none_or]; rw [h i (List.mem_range.1 hi)]
      | some x => rfl
    rw [this]
theorem chain_lt {w : World} {X : Nat → List Nd} : ∀ {P : List Nd}, ChainF w X P → ∀ n ∈ P, n.blk < w.heap.size
  | m :: R, ⟨h1, h2⟩, n, hn => by
    rcases List.mem_cons.1 hn with rfl | hn
    · exact (Array.getElem?_eq_some_iff.1 h1).1
    · exact chain_lt h2 n hn
theorem chain_blk {w : World} {X : Nat → List Nd} : ∀ {P : List Nd}, ChainF w X P → ∀ n ∈ P, ∃ cs, w.heap[n.blk]? = some (.cells cs 150)
  | m :: R, ⟨h1, h2⟩, n, hn => by
    rcases List.mem_cons.1 hn with rfl | hn
    · exact ⟨_, h1⟩
    · exact chain_blk h2 n hn
/-- the list with a node more -/
theorem SkipAt.add {lb H : Nat} {S S' : Nat → Prop} {L : List Nd} {w w' : World} (h : SkipAt lb H S L w) (nn : Nd) (hs : 1 ≤ nn.steps ∧ nn.steps ≤ 16) (hnew : getN nn.key L = none) (hB : w.heap.size ≤ nn.blk) (hS : ∀ k, S k → S' k) (hSB : S' nn.blk)
    (hlist : w'.heap[lb]? = some (.cells #[.pointer (some ⟨H, 0, none⟩), .int .i64 ((L.length + 1 : Nat) : Int)] 153)) (hc1 : ChainF w' (fun i => if i < nn.steps then nn :: above nn.key L else above nn.key L) (hd0 H :: below nn.key L)) (hc2 : ChainF w' (fun _ => []) (above nn.key L))
    (hc3 : w'.heap[nn.blk]? = some (.cells (nodeA nn (fun i => up nn (above nn.key L) i)) 150)) : SkipAt lb H S' (below nn.key L ++ nn :: above nn.key L) w' := by
  have hLe := below_above nn.key L
  refine ⟨?_, ?_, ?_, ?_, ?_, hS _ h.sl, ?_⟩
  · rw [hlist]
    have : (below nn.key L ++ nn :: above nn.key L).length = L.length + 1 := by
      have := congrArg List.length hLe
      simp only [List.length_append, List.length_cons] at this ⊢
      omega
    rw [this]
  · rw [← List.cons_append]
    refine chainF_app.2 ⟨chainF_nxt (fun i hi => ?_) hc1, ?_⟩
    · simp only [List.append_nil]
      split
      · rfl
      · rename_i hn
        simp only [nxt, List.find?_cons]
        rw [decide_eq_false (by omega)]
    · refine ⟨?_, hc2⟩
      rw [hc3]
      simp
  · have hr := h.rise
    rw [← hLe] at hr
    obtain ⟨r1, r2, r3⟩ := List.pairwise_append.1 hr
    refine List.pairwise_append.2 ⟨r1, List.pairwise_cons.2 ⟨fun x hx => ?_, r2⟩, fun a ha b hb => ?_⟩
    · have hge := above_ge h.rise x hx
      cases hc : klt nn.key x.key with
      | true => rfl
      | false =>
        exfalso
        have heq := bl_total _ _ hge hc
        cases ha : above nn.key L with
        | nil => rw [ha] at hx; simp at hx
        | cons y r =>
          have hy := above_ge h.rise y (by rw [ha]; simp)
          have hyx : y = x := by
            rw [ha] at hx r2
            rcases List.mem_cons.1 hx with rfl | hx
            · rfl
            · have := (List.pairwise_cons.1 r2).1 x hx
              have e2 : klt y.key nn.key = true := by
                show Op.bytesLess y.key.toList nn.key.toList = true
                rw [← heq]; exact this
              rw [hy] at e2; cases e2
          subst hyx
          unfold getN at hnew
          rw [ha] at hnew
          simp only [List.head?_cons] at hnew
          rw [if_pos (by simpa using heq)] at hnew
          cases hnew
    · rcases List.mem_cons.1 hb with rfl | hb
      · exact below_lt ha
      · exact r3 a ha b hb
  · have hnd := h.nd
    have hlt := chain_lt h.chain
    rw [← hLe] at hnd hlt
    rw [← List.cons_append, List.map_append] at hnd ⊢
    rw [List.map_cons]
    obtain ⟨n1, n2, n3⟩ := List.nodup_append.1 hnd
    have hne : ∀ x ∈ hd0 H :: (below nn.key L ++ above nn.key L), x.blk ≠ nn.blk := fun x hx e => by have := hlt x hx; omega
    refine List.nodup_append.2 ⟨n1, List.nodup_cons.2 ⟨fun hm => ?_, n2⟩, fun a ha b hb => ?_⟩
    · obtain ⟨x, hx, e⟩ := List.mem_map.1 hm
      exact hne x (by simp [hx]) e
    · rcases List.mem_cons.1 hb with rfl | hb
      · have ha' : a ∈ List.map (·.blk) (hd0 H :: below nn.key L) := ha
        obtain ⟨x, hx, e⟩ := List.mem_map.1 ha'
        rw [← e]
        exact hne x (by rcases List.mem_cons.1 hx with h | h <;> simp [h])
      · exact n3 a ha b hb
  · intro x hx
    rcases List.mem_append.1 hx with hx | hx
    · exact h.steps x (by rw [← hLe]; simp [hx])
    · rcases List.mem_cons.1 hx with rfl | hx
      · exact hs
      · exact h.steps x (by rw [← hLe]; simp [hx])
  · intro x hx
    rcases List.mem_cons.1 hx with rfl | hx
    · exact hS _ (h.sn _ (by simp))
    · rcases List.mem_append.1 hx with hx | hx
      · exact hS _ (h.sn x (by rw [← hLe]; simp [hx]))
      · rcases List.mem_cons.1 hx with rfl | hx
        · exact hSB
        · exact hS _ (h.sn x (by rw [← hLe]; simp [hx]))

/-- a value that is set at a step of a node -/
theorem up_set {w : World} {b j : Nat} {nn : Nd} {f g : Nat → Value} {t : TypeId} (hb : w.heap[b]? = some (.cells (nodeA nn f) t)) (hj : j < 16) (h : ∀ i, i < 16 → i ≠ j → f i = g i) : (w.setCell ⟨b, 3 + j, none⟩ (g j)).heap[b]? = some (.cells (nodeA nn g) t) := by
  have := nodeA_set (n := nn) hj h
  rw [Array.set!_eq_setIfInBounds] at this
  rw [heap_set hb, this]
structure PutInv (lb H : Nat) (S : Nat → Prop) (L : List Nd) (nn : Nd) (w0 w : World) (k : Nat) : Prop where
  c1 : ChainF w (fun i => if i < k then nn :: above nn.key L else above nn.key L) (hd0 H :: below nn.key L)
  c2 : ChainF w (fun _ => []) (above nn.key L)
  c3 : w.heap[nn.blk]? = some (.cells (nodeA nn (fun i => if i < k then up nn (above nn.key L) i else .pointer none)) 150)
  list : w.heap[lb]? = some (.cells #[.pointer (some ⟨H, 0, none⟩), .int .i64 L.length] 153)
  fr : FrT (UpS S w0) w0 w
/-- one step -/
theorem PutInv.step {lb H : Nat} {S : Nat → Prop} {L : List Nd} {nn : Nd} {w0 w : World} {k : Nat} (h : PutInv lb H S L nn w0 w k) (hk : k < nn.steps) (hk16 : k < 16) (hnd : ((hd0 H :: L).map (·.blk)).Nodup) (hB : ∀ n ∈ hd0 H :: L, n.blk ≠ nn.blk) (hsn : ∀ n ∈ hd0 H :: L, S n.blk) (hBw : w0.heap.size ≤ nn.blk) (hlb : S lb)  :
    PutInv lb H S L nn w0 ((w.setCell ⟨nn.blk, 3 + k, none⟩ (ptr (nxt (above nn.key L) k))).setCell ⟨(lastAt (hd0 H) (below nn.key L) k).blk, 3 + k, none⟩ (.pointer (some ⟨nn.blk, 0, none⟩))) (k + 1) := by
  obtain ⟨A, R, e, hs, hR⟩ := lastAt_split (h := hd0 H) (P := below nn.key L) (i := k) (by simp [hd0]; exact hk16)
  have hLe := below_above nn.key L
  have hmem : lastAt (hd0 H) (below nn.key L) k ∈ hd0 H :: below nn.key L := by rw [e]; simp
  have hmemL : ∀ x, x ∈ hd0 H :: below nn.key L → x ∈ hd0 H :: L := fun x hx => by
    rcases List.mem_cons.1 hx with h | h
    · simp [h]
    · rw [← hLe]; simp [h]
  have hmemQ : ∀ x, x ∈ above nn.key L → x ∈ hd0 H :: L := fun x hx => by rw [← hLe]; simp [hx]
  have hnd' := hnd
  rw [← hLe, ← List.cons_append, List.map_append] at hnd'
  obtain ⟨n1, n2, n3⟩ := List.nodup_append.1 hnd'
  have hc1 : ChainF (w.setCell ⟨nn.blk, 3 + k, none⟩ (ptr (nxt (above nn.key L) k))) (fun i => if i < k then nn :: above nn.key L else above nn.key L) (hd0 H :: below nn.key L) :=
    chainF_blk h.c1 (fun n hn o ho => heap_set_other ho _ _ (fun e => hB n (hmemL n hn) e.symm))
  refine ⟨?_, ?_, ?_, ?_, ?_⟩
  · refine chainF_turn hc1 hk16 (by simp [hd0]; exact hk16) (fun i hi hne => ?_) n1 (fun A' R' e' => ?_) (fun j o hj ho => heap_set_other ho _ _ (fun e => hj e.symm))
    · by_cases h1 : i < k
      · rw [if_pos h1, if_pos (by omega)]
      · rw [if_neg h1, if_neg (by omega)]
    · have hc := hc1
      rw [e'] at hc
      have h1 := chainF_at hc
      rw [heap_set h1]
      congr 2
      rw [if_pos (by omega : k < k + 1)]
      simp only [nxt, List.find?_cons, decide_eq_true hk]
      rfl
  · refine chainF_blk h.c2 (fun n hn o ho => heap_set_other (heap_set_other ho _ _ (fun e => hB n (hmemQ n hn) e.symm)) _ _ (fun e => ?_))
    exact n3 _ (List.mem_map_of_mem hmem) _ (List.mem_map_of_mem hn) e
  · refine heap_set_other ?_ _ _ (fun e => hB _ (hmemL _ hmem) e)
    have := up_set (g := fun i => if i < k + 1 then up nn (above nn.key L) i else .pointer none) h.c3 hk16 (fun i hi hne => by
      by_cases h1 : i < k
      · rw [if_pos h1, if_pos (by omega)]
      · rw [if_neg h1, if_neg (by omega)])
    rw [if_pos (by omega), up_at hk] at this
    exact this
  · have hty : ∀ b cs, w.heap[b]? = some (.cells cs 150) → b ≠ lb := fun b cs hb e => by
      rw [e, h.list] at hb
      simp at hb
    refine heap_set_other (heap_set_other h.list _ _ ?_) _ _ ?_
    · exact hty _ _ h.c3
    · obtain ⟨cs, hcs⟩ := chain_blk h.c1 _ hmem
      exact hty _ _ hcs
  · have hset : ∀ (W : World) (b i : Nat) (v : Value), FrT (UpS S w0) w0 W → (w0.heap.size ≤ b ∨ (S b ∧ ∃ cs, W.heap[b]? = some (.cells cs 150))) → FrT (UpS S w0) w0 (W.setCell ⟨b, i, none⟩ v) := by
      intro W b i v hW hb
      refine ⟨hW.os, hW.tape, hW.output, by simpa using hW.size, fun j o ho hn => ?_⟩
      refine heap_set_other (hW.blk j o ho hn) _ _ (fun e => ?_)
      simp only at e
      subst e
      rcases hb with hb | ⟨hb, cs, hcs⟩
      · have := (Array.getElem?_eq_some_iff.1 ho).1
        omega
      · have h5 := hW.blk b o ho hn
        rw [hcs] at h5
        cases h5
        exact hn (.inl hb) ⟨cs, _, .inl rfl⟩
    refine hset _ _ _ _ (hset _ _ _ _ h.fr (.inl hBw)) (.inr ⟨hsn _ (hmemL _ hmem), ?_⟩)
    exact chain_blk hc1 _ hmem
end Go.Proofs.YthgecojbggoniaaGreatDoor
namespace Go.Proofs.YthgecojbggoniaaGreatDoor
open Go.RowKit
set_option maxRecDepth 100000
set_option linter.unusedVariables false
set_option linter.unusedSimpArgs false
set_option linter.unnecessarySimpa false

theorem chain_frozen {w : World} {X : Nat → List Nd} {P : List Nd} {n : Nd} {i : Nat} (h : ChainF w X P) (hn : n ∈ P) : w.frozen? ⟨n.blk, i, none⟩ = false := by
  obtain ⟨cs, hcs⟩ := chain_blk h n hn
  simp [World.frozen?, hcs]
theorem last_mem {h : Nd} {P : List Nd} {i : Nat} (hi : i < h.steps) : lastAt h P i ∈ h :: P := by
  obtain ⟨A, R, e, _⟩ := lastAt_split (h := h) (P := P) hi
  rw [e]; simp
theorem last_cell {w : World} {X : Nat → List Nd} {h : Nd} {P : List Nd} {j : Nat} (hc : ChainF w X (h :: P)) (hj : j < 16) (hh : j < h.steps) : w.cell? ⟨(lastAt h P j).blk, 3 + j, none⟩ = some (ptr (nxt (X j) j)) := by
  obtain ⟨A, R, e, hs, hR⟩ := lastAt_split (h := h) (P := P) hh
  rw [e] at hc
  rw [chain_cell hc hj hs, nxt_app, nxt_none hR]
  rfl
theorem mem_all {h x : Nd} {key : ByteArray} {L : List Nd} (hx : x ∈ h :: below key L) : x ∈ h :: L := by
  rcases List.mem_cons.1 hx with h | h
  · simp [h]
  · have : x ∈ L := by rw [← below_above key L]; exact List.mem_append_left _ h
    simp [this]
theorem PutInv.drew {lb H : Nat} {S : Nat → Prop} {L : List Nd} {nn : Nd} {w0 w : World} {k : Nat} (h : PutInv lb H S L nn w0 w k) : PutInv lb H S L nn w0 w.drew k :=
  ⟨chainF_blk h.c1 (fun _ _ _ ho => ho), chainF_blk h.c2 (fun _ _ _ ho => ho), h.c3, h.list, ⟨h.fr.os, h.fr.tape, h.fr.output, h.fr.size, h.fr.blk⟩⟩
theorem PutInv.ends {lb H : Nat} {S : Nat → Prop} {L : List Nd} {nn : Nd} {w w1 : World} {k : Nat} (h : PutInv lb H S L nn w w1 k) (h0 : SkipAt lb H S L w) (hs : 1 ≤ nn.steps ∧ nn.steps ≤ 16) (hk : k = nn.steps) (hnew : getN nn.key L = none) (hB : w.heap.size ≤ nn.blk) :
    SkipAt lb H (UpS S w) (below nn.key L ++ nn :: above nn.key L) (w1.setCell ⟨lb, 1, none⟩ (.int .i64 ((L.length : Int) + 1))) ∧ FrT (UpS S w) w (w1.setCell ⟨lb, 1, none⟩ (.int .i64 ((L.length : Int) + 1))) := by
  subst hk
  rw [show ((L.length : Int) + 1) = ((L.length + 1 : Nat) : Int) by omega]
  have hne : ∀ b cs, w1.heap[b]? = some (.cells cs 150) → lb ≠ b := fun b cs hb e => by
    rw [← e, h.list] at hb
    simp at hb
  have hc : ∀ {X : Nat → List Nd} {P : List Nd}, ChainF w1 X P → ChainF (w1.setCell ⟨lb, 1, none⟩ (.int .i64 ((L.length + 1 : Nat) : Int))) X P := fun hx => chainF_blk hx (fun n hn o ho => by
    obtain ⟨cs, hcs⟩ := chain_blk hx n hn
    exact heap_set_other ho _ _ (hne _ _ hcs))
  refine ⟨h0.add nn hs hnew hB (fun _ h => .inl h) (.inr hB) ?_ (hc h.c1) (hc h.c2) ?_, ?_⟩
  · have := heap_set h.list 1 (.int .i64 ((L.length + 1 : Nat) : Int))
    exact this
  · refine heap_set_other ?_ _ _ (hne _ _ h.c3)
    rw [h.c3]
    congr 3
    funext i
    unfold up
    split <;> rfl
  · refine ⟨h.fr.os, h.fr.tape, h.fr.output, by simpa using h.fr.size, fun j o ho hn => ?_⟩
    refine heap_set_other (h.fr.blk j o ho hn) _ _ (fun e => ?_)
    simp only at e
    subst e
    have h5 := h.fr.blk lb o ho hn
    rw [h.list] at h5
    cases h5
    exact hn (.inl h0.sl) ⟨_, _, .inr rfl⟩
set_option maxHeartbeats 4000000 in
theorem put_new {lb H : Nat} {S : Nat → Prop} {L : List Nd} {w : World} (h : SkipAt lb H S L w) (key val : ByteArray) (s : Nat) (hs : 1 ≤ s ∧ s ≤ 16) (hlen : L.length < 4611686018427387904) (hnew : getN key L = none) :
    Calls Tryz.prog 56 #[.pointer (some ⟨lb, 0, none⟩), .string key, .string val, .int .i64 s] w fun e w' => e = .returned (.bool true) ∧ (∃ nn, nn.key = key ∧ nn.val = val ∧ SkipAt lb H (UpS S w) (below key L ++ nn :: above key L) w') ∧ FrT (UpS S w) w w' := by
  have HH := Lib.hid h
  have HN := Lib.hid (none_skip h.list)
  have hf := find_sk h key
  rw [hnew] at hf
  have HF := Lib.hid hf
  have HNW := Lib.hid hnew
  obtain ⟨hs1, hs2⟩ := hs
  clear h hnew hf
  go_enter Tryz.func56, Tryz.ntmps56
  simp only [ptr] at HF
  go_wp2_with (first | (go_at_call 85; refine HN.out.mono ?_; rintro e w1 ⟨rfl, rfl⟩) | (go_at_call 81; refine HF.out.mono ?_; rintro e w1 ⟨rfl, hg1⟩; have HG1 := Lib.hid hg1; clear hg1) | fail)
  have HA := Lib.hid (HH.out.gr (HG1.out.alloc (Obj.cells (nodeA ⟨w1.heap.size, key, val, s⟩ (fun i => .pointer none)) 150)))
  refine (ahead_any HA.out key).mono ?_
  rintro e w2 ⟨rfl, hg2⟩
  have HG2 := Lib.hid hg2
  clear hg2
  have HI0 : Hid (PutInv lb H S L ⟨w1.heap.size, key, val, s⟩ w w2 0) := by
    have hg := (HG1.out.alloc (Obj.cells (nodeA ⟨w1.heap.size, key, val, s⟩ (fun i => .pointer none)) 150)).trans HG2.out
    have hh := HH.out.gr hg
    have hc := hh.chain
    rw [← below_above key L, ← List.cons_append] at hc
    obtain ⟨p1, p2⟩ := chainF_app.1 hc
    exact Lib.hid ⟨by simpa using p1, p2, by simpa using HG2.out.blk (heap_alloc_new w1 _), hh.list, FrT.gr hg⟩
  have HND := Lib.hid HH.out.nd
  have HLT : Hid (∀ n ∈ hd0 H :: L, n.blk ≠ w1.heap.size) := Lib.hid (fun n hn => by
    have := chain_lt HH.out.chain n hn
    have := HG1.out.size
    omega)
  have HW1 := Lib.hid HG1.out.size
  generalize hB : w1.heap.size = B at *
  clear HA HG2 HG1 hB
  go_wp2
  go_loopw [40] (fun iv wr => ∃ k : Nat, iv = .int .i64 k ∧ k ≤ s ∧ k ≤ 16 ∧ Hid (PutInv lb H S L ⟨B, key, val, s⟩ w wr k)) (fun iv _ => 16 - (intOf iv).toNat)
  case atStart => exact ⟨0, rfl, by omega, by omega, HI0⟩
  case round =>
    obtain ⟨k, rfl, hk1, hk2, HI⟩ := hrel
    clear HI0
    by_cases hk : k < s
    · have hk16 : k < 16 := by omega
      have hix := run_index (hd0 H) (below key L) k hk16
      have HS := Lib.hid (HI.out.step hk hk16 HND.out HLT.out HH.out.sn HW1.out HH.out.sl)
      have c1 := last_cell HI.out.c1 hk16 (by simp [hd0]; exact hk16)
      have f1 := chain_frozen (i := 3 + k) HI.out.c1 (last_mem (h := hd0 H) (P := below key L) (i := k) (by simp [hd0]; exact hk16))
      have c2 := cell_of HI.out.c3 (i := 3 + k) (nodeA_get hk16)
      have f2 : wr.frozen? ⟨B, 3 + k, none⟩ = false := by simp [World.frozen?, HI.out.c3]
      have hne : (lastAt (hd0 H) (below key L) k).blk ≠ B := HLT.out _ (mem_all (last_mem (by simp [hd0]; exact hk16)))
      simp only [Nat.lt_irrefl, if_false] at c1 c2
      have hks : ((k : Int) == (s : Int)) = false := by rw [beq_eq_false_iff_ne]; omega
      generalize outA (hd0 H) (below key L) 0 = oa at *
      generalize (lastAt (hd0 H) (below key L) k).blk = ab at *
      have hne2 : B ≠ ab := fun e => hne e.symm
      cases hn : nxt (above key L) k with
      | none =>
        rw [hn] at c1 HS
        simp only [ptr] at c1 HS
        go_wp2
        go_region
        go_wp2
        go_roundw
        case rel => exact ⟨k + 1, by go_num, by omega, by omega, Lib.hid HS.out.drew⟩
        case measure => first | (simp [intOf]; done) | (simp [intOf]; omega)
      | some n =>
        rw [hn] at c1 HS
        simp only [ptr] at c1 HS
        go_wp2
        go_region
        go_wp2
        go_roundw
        case rel => exact ⟨k + 1, by go_num, by omega, by omega, Lib.hid HS.out.drew⟩
        case measure => first | (simp [intOf]; done) | (simp [intOf]; omega)
    · obtain rfl : k = s := by omega
      have hl1 := cell_of HI.out.list (i := 1) rfl
      have hl2 : wr.frozen? ⟨lb, 1, none⟩ = false := by simp [World.frozen?, HI.out.list]
      have HE := Lib.hid (HI.out.ends HH.out ⟨hs1, hs2⟩ rfl HNW.out HW1.out)
      by_cases h16 : k < 16
      · have hix := run_index (hd0 H) (below key L) k h16
        generalize outA (hd0 H) (below key L) 0 = oa at *
        go_wp2
        go_ret
        exact ⟨rfl, ⟨_, rfl, rfl, HE.out.1⟩, HE.out.2⟩
      · obtain rfl : k = 16 := by omega
        go_wp2
        go_ret
        exact ⟨rfl, ⟨_, rfl, rfl, HE.out.1⟩, HE.out.2⟩
end Go.Proofs.YthgecojbggoniaaGreatDoor
