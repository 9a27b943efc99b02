/- What the rows stand on, part 06: Shape, RegS, Bring. Printed by bundle.py out of my texts. -/
import Derived.Test.YthgecojbggoniaaGreatDoorBe01
import Derived.Deep.Slices
import Derived.OpenShut
import Derived.Deep.DeepHandedRow
import Derived.SizedLaws
import Derived.Deep.RegionHeld
import Derived.StillTail
import Derived.RegionTactic
import Derived.ChangeAlike
namespace Go.Proofs.YthgecojbggoniaaGreatDoor
open Go.ChangeShapes Go.WideShapes Go.ChangeAt Go.RowKit
set_option linter.unusedVariables false

inductive Sh0 where
  | int | u8 | bool | str
  | st (fs : List Sh0)
  | sl (e : Sh0)
inductive Dat where
  | int (z : Int)
  | bool (b : Bool)
  | str (s : ByteArray)
  | st (l : List Dat)
  | sl (l : List Dat)

mutual
def Sh0.size : Sh0 → Nat
  | .st fs => Sh0.sizes fs
  | .int => 1 | .u8 => 1 | .bool => 1 | .str => 1
  | .sl _ => 1
def Sh0.sizes : List Sh0 → Nat
  | [] => 0
  | f :: r => f.size + Sh0.sizes r
end
mutual
def fitsB (P : Program) : Sh0 → TypeId → Bool
  | .int, t => (match P.underlying t with | some (.int .i64) => true | _ => false)
  | .u8, t => (match P.underlying t with | some (.int .u8) => true | _ => false)
  | .bool, t => (match P.underlying t with | some .bool => true | _ => false)
  | .str, t => (match P.underlying t with | some .string => true | _ => false)
  | .st fs, t => (match P.underlying t with
    | some (.struct F) => P.cellsOf t == Sh0.sizes fs && fitsF P fs F.toList 0
    | some (.array n q) => P.cellsOf t == Sh0.sizes fs && n == fs.length && fitsA P fs q
    | _ => false)
  | .sl e, t => (match P.underlying t with
    | some (.slice q) => P.cellsOf q == e.size && decide (1 ≤ e.size) && decide (1 ≤ P.bytesOf q) && fitsB P e q
    | _ => false)
def fitsF (P : Program) : List Sh0 → List Field → Nat → Bool
  | [], [], _ => true
  | s :: ss, f :: fs, o => f.offset == o && P.cellsOf f.type == s.size && fitsB P s f.type && fitsF P ss fs (o + s.size)
  | _, _, _ => false
def fitsA (P : Program) : List Sh0 → TypeId → Bool
  | [], _ => true
  | s :: ss, q => P.cellsOf q == s.size && fitsB P s q && fitsA P ss q
end

mutual
/-- these cells, in this world, are this datum; texts and slices have at most M elements -/
def rep (M : Nat) (w : World) : Sh0 → List Value → Dat → Prop
  | .int, cs, .int z => cs = [.int .i64 z] ∧ -9223372036854775808 ≤ z ∧ z ≤ 9223372036854775807
  | .u8, cs, .int z => cs = [.int .u8 z] ∧ 0 ≤ z ∧ z ≤ 255
  | .bool, cs, .bool b => cs = [.bool b]
  | .str, cs, .str s => cs = [.string s] ∧ s.size ≤ M
  | .st fs, cs, .st l => reps M w fs cs l
  | .sl e, cs, .sl l => (l = [] ∧ ∃ q c, cs = [.slice q 0 c] ∧ c ≤ maxLen ∧ (q = none → c = 0)) ∨
      ∃ blk off cap, cs = [.slice (some ⟨blk, off, none⟩) l.length cap] ∧ 0 < l.length ∧ l.length ≤ M ∧ l.length ≤ cap ∧ cap ≤ maxLen ∧ blk < w.heap.size ∧
        ∀ (i : Nat) (h : i < l.length), ∃ ds : List Value, ds.length = e.size ∧ (∀ (j : Nat) (hj : j < ds.length), w.cell? ⟨blk, off + (i * e.size + j), none⟩ = some ds[j]) ∧ rep M w e ds l[i]
  | _, _, _ => False
def reps (M : Nat) (w : World) : List Sh0 → List Value → List Dat → Prop
  | [], cs, [] => cs = []
  | s :: ss, cs, d :: ds => ∃ a b, cs = a ++ b ∧ rep M w s a d ∧ reps M w ss b ds
  | _, _, _ => False
end

mutual
/-- texts and slices of a datum have at most M elements -/
def lensLe {H : Type} (M : Nat) : DataW H → Prop
  | .lit (.string b) => b.length ≤ M
  | .slice el _ => el.length ≤ M ∧ lensLeL M el
  | .agg l => lensLeL M l
  | _ => True
def lensLeL {H : Type} (M : Nat) : List (DataW H) → Prop
  | [] => True
  | d :: r => lensLe M d ∧ lensLeL M r
end
theorem lensLeL_mem {H : Type} {M : Nat} : ∀ {l : List (DataW H)}, lensLeL M l → ∀ d ∈ l, lensLe M d
  | d :: r, h, x, hx => by
    rcases List.mem_cons.1 hx with rfl | hx
    · exact h.1
    · exact lensLeL_mem h.2 x hx

theorem list_of_all {α : Type} {n : Nat} {Q : Nat → α → Prop} (h : ∀ i, i < n → ∃ a, Q i a) : ∃ l : List α, l.length = n ∧ ∀ (i : Nat) (hi : i < l.length), Q i l[i] := by
  induction n with
  | zero => exact ⟨[], rfl, fun i hi => by simp at hi⟩
  | succ n ih =>
    obtain ⟨l, hl, hq⟩ := ih (fun i hi => h i (by omega))
    obtain ⟨a, ha⟩ := h n (by omega)
    refine ⟨l ++ [a], by simp [hl], fun i hi => ?_⟩
    by_cases hin : i < l.length
    · rw [List.getElem_append_left hin]; exact hq i hin
    · have : i = n := by simp [hl] at hi; omega
      subst this
      rw [List.getElem_append_right (by omega)]
      simpa [hl] using ha

section
variable {H : Type} {enc : TypeId × Value → H} {P : Program} {w : World} {base : Nat} {spare : Nat → Bool} {held : Bool} {M : Nat}

mutual
theorem open_rep : ∀ (s : Sh0) (t : TypeId) (fuel : Nat) (cs : List Value) (x : DataW H × List MemPlace), fitsB P s t = true → DataW.trod enc P w base spare held fuel t cs = some x → lensLe M x.1 → ∃ d, rep M w s cs d
  | .int, t, fuel, cs, x, hf, h, hM => by
    simp only [fitsB] at hf
    split at hf <;> simp at hf
    rename_i hu
    obtain ⟨n, rfl, rfl, hw⟩ := DataW.trod_int hu h
    exact ⟨.int n, rfl, bounds_i64 hw⟩
  | .u8, t, fuel, cs, x, hf, h, hM => by
    simp only [fitsB] at hf
    split at hf <;> simp at hf
    rename_i hu
    obtain ⟨n, rfl, rfl, hw⟩ := DataW.trod_int hu h
    exact ⟨.int n, rfl, bounds_u8 hw⟩
  | .bool, t, fuel, cs, x, hf, h, hM => by
    simp only [fitsB] at hf
    split at hf <;> simp at hf
    rename_i hu
    obtain ⟨b, rfl, rfl⟩ := DataW.trod_bool hu h
    exact ⟨.bool b, rfl⟩
  | .str, t, fuel, cs, x, hf, h, hM => by
    simp only [fitsB] at hf
    split at hf <;> simp at hf
    rename_i hu
    obtain ⟨s, rfl, rfl, hs⟩ := DataW.trod_string hu h
    exact ⟨.str s, rfl, by simpa [lensLe] using hM⟩
  | .st fs, t, fuel, cs, x, hf, h, hM => by
    simp only [fitsB] at hf
    split at hf
    · rename_i F hu
      simp only [Bool.and_eq_true, beq_iff_eq] at hf
      obtain ⟨xs, n, rfl, rfl, hl, hxl, hx⟩ := DataW.trod_struct hu h
      have hM' : lensLeL M (xs.map (·.1)) := by simpa [lensLe] using hM
      obtain ⟨ds, hd⟩ := open_reps fs F.toList 0 n cs xs hf.2 (fun i f hi => hx i f (by rw [← hi, Array.getElem?_toList])) (by simpa using hxl) (by rw [hl, hf.1]; simp)
        (fun y hy => lensLeL_mem hM' _ (List.mem_map_of_mem hy))
      exact ⟨.st ds, by simpa [rep] using hd⟩
    · rename_i nn q hu
      simp only [Bool.and_eq_true, beq_iff_eq] at hf
      obtain ⟨xs, n, rfl, rfl, hl, hxl, hx⟩ := DataW.trod_array hu h
      have hM' : lensLeL M (xs.map (·.1)) := by simpa [lensLe] using hM
      obtain ⟨ds, hd⟩ := open_repsA fs q 0 n cs xs hf.2 (fun i hi => by simpa using hx i (by rw [hf.1.2]; exact hi)) (by rw [hxl, hf.1.2]) (by rw [hl, hf.1.1]; simp)
        (fun y hy => lensLeL_mem hM' _ (List.mem_map_of_mem hy))
      exact ⟨.st ds, by simpa [rep] using hd⟩
    · simp at hf
  | .sl e, t, fuel, cs, x, hf, h, hM => by
    simp only [fitsB] at hf
    split at hf
    · rename_i q hu
      simp only [Bool.and_eq_true, beq_iff_eq] at hf
      rcases Go.Deep.open_slice hu h with ⟨rfl, rfl⟩ | ⟨a, len, cap, m, n, D, Pl, rfl, hb, hl, hm, hmm, rfl, hi⟩
      · exact ⟨.sl [], by rw [rep]; exact .inl ⟨rfl, none, 0, rfl, by unfold maxLen; omega, fun _ => rfl⟩⟩
      · have hM' : len ≤ M ∧ lensLeL M ((List.range len).map D) := by simpa [lensLe] using hM
        by_cases h0 : len = 0
        · subst h0
          refine ⟨.sl [], ?_⟩
          rw [rep]
          exact .inl ⟨rfl, _, _, rfl, hm, fun h => by simp at h⟩
        · have hmi : len ≤ m := by rw [hmm]; split <;> omega
          have hal : ∀ i, i < len → ∃ d : Dat, ∃ ds : List Value, ds.length = e.size ∧ (∀ (j : Nat) (hj : j < ds.length), w.cell? (a.add (i * e.size + j)) = some ds[j]) ∧ rep M w e ds d := by
            intro i hil
            obtain ⟨cs', hc, ht⟩ := hi i (by omega)
            obtain ⟨_, hcl, hat⟩ := World.cells?_some hc
            have hMi : lensLe M (D i) := lensLeL_mem hM'.2 _ (List.mem_map_of_mem (List.mem_range.2 hil))
            obtain ⟨d, hd⟩ := open_rep e q n cs' (D i, Pl i) hf.2 ht hMi
            refine ⟨d, cs', by rw [hcl, hf.1.1.1], fun j hj => ?_, hd⟩
            have := hat j (by omega)
            rw [Go.Deep.add_add, hf.1.1.1] at this
            rw [this]
            exact List.getElem?_eq_getElem hj
          obtain ⟨l, hll, hq⟩ := list_of_all hal
          refine ⟨.sl l, ?_⟩
          rw [rep]
          obtain ⟨b, off, spot⟩ := a
          -- the first element is read: so the address is plain
          have hz : 1 ≤ e.size := by simpa using hf.1.1.2
          · have hpl : spot = none := by
              obtain ⟨ds, h1, h2, _⟩ := hq 0 (by omega)
              have := h2 0 (by omega)
              simp [Addr.add] at this
              exact World.cell?_spot this
            subst hpl
            have hbl : b < w.heap.size := by
              obtain ⟨ds, h1, h2, _⟩ := hq 0 (by omega)
              have := h2 0 (by omega)
              simp [Addr.add] at this
              exact World.block_lt_of_cell? w ⟨b, off, none⟩ this
            refine .inr ⟨b, off, cap, by rw [hll], by omega, by omega, by omega, hm, hbl, fun i hil => ?_⟩
            obtain ⟨ds, h1, h2, h3⟩ := hq i hil
            exact ⟨ds, h1, fun j hj => by rw [← Addr.add_lit]; exact h2 j hj, h3⟩
    · simp at hf
theorem open_reps : ∀ (ss : List Sh0) (fs : List Field) (o n : Nat) (cs : List Value) (xs : List (DataW H × List MemPlace)), fitsF P ss fs o = true →
    (∀ (i : Nat) (f : Field), fs[i]? = some f → DataW.trod enc P w base spare held n f.type ((cs.drop f.offset).take (P.cellsOf f.type)) = xs[i]?) → xs.length = fs.length → cs.length = o + Sh0.sizes ss → (∀ y ∈ xs, lensLe M y.1) → ∃ ds, reps M w ss (cs.drop o) ds
  | [], fs, o, n, cs, xs, hf, hx, hxl, hl, hM => by
    cases fs with
    | nil => exact ⟨[], by simp [reps, Sh0.sizes] at hl ⊢; omega⟩
    | cons => simp [fitsF] at hf
  | s :: ss, fs, o, n, cs, xs, hf, hx, hxl, hl, hM => by
    cases fs with
    | nil => simp [fitsF] at hf
    | cons f fs =>
      simp only [fitsF, Bool.and_eq_true, beq_iff_eq] at hf
      obtain ⟨⟨⟨ho, hc⟩, hb⟩, hr⟩ := hf
      cases xs with
      | nil => simp at hxl
      | cons y ys =>
        have h0 := hx 0 f rfl
        simp only [List.getElem?_cons_zero] at h0
        obtain ⟨d, hd⟩ := open_rep s f.type n _ y hb h0 (hM y (List.mem_cons_self ..))
        obtain ⟨ds, hds⟩ := open_reps ss fs (o + s.size) n cs ys hr (fun i g hi => by simpa using hx (i + 1) g (by simpa using hi)) (by simpa using hxl) (by simp [Sh0.sizes] at hl; omega) (fun z hz => hM z (List.mem_cons_of_mem _ hz))
        refine ⟨d :: ds, ?_⟩
        rw [reps]
        refine ⟨_, _, ?_, hd, hds⟩
        rw [ho, hc, ← List.drop_drop]
        exact (List.take_append_drop _ _).symm
theorem open_repsA : ∀ (ss : List Sh0) (q : TypeId) (k n : Nat) (cs : List Value) (xs : List (DataW H × List MemPlace)), fitsA P ss q = true →
    (∀ (i : Nat), i < ss.length → DataW.trod enc P w base spare held n q ((cs.drop ((k + i) * P.cellsOf q)).take (P.cellsOf q)) = xs[i]?) → xs.length = ss.length → cs.length = k * P.cellsOf q + Sh0.sizes ss → (∀ y ∈ xs, lensLe M y.1) → ∃ ds, reps M w ss (cs.drop (k * P.cellsOf q)) ds
  | [], q, k, n, cs, xs, hf, hx, hxl, hl, hM => ⟨[], by simp [reps, Sh0.sizes] at hl ⊢; omega⟩
  | s :: ss, q, k, n, cs, xs, hf, hx, hxl, hl, hM => by
    simp only [fitsA, Bool.and_eq_true, beq_iff_eq] at hf
    obtain ⟨⟨hc, hb⟩, hr⟩ := hf
    cases xs with
    | nil => simp at hxl
    | cons y ys =>
      have h0 := hx 0 (by simp)
      simp only [List.getElem?_cons_zero, Nat.add_zero] at h0
      obtain ⟨d, hd⟩ := open_rep s q n _ y hb h0 (hM y (List.mem_cons_self ..))
      obtain ⟨ds, hds⟩ := open_repsA ss q (k + 1) n cs ys hr (fun i hi => by simpa [Nat.add_assoc, Nat.add_comm 1 i] using hx (i + 1) (by simpa using hi)) (by simpa using hxl) (by simp [Sh0.sizes, Nat.add_mul] at hl ⊢; omega) (fun z hz => hM z (List.mem_cons_of_mem _ hz))
      refine ⟨d :: ds, ?_⟩
      rw [reps]
      refine ⟨_, _, ?_, hd, hds⟩
      rw [Nat.add_mul, Nat.one_mul, ← List.drop_drop]
      exact (List.take_append_drop _ _).symm
end

end

mutual
theorem rep.gr {M : Nat} {a b : World} (hg : Gr a b) : ∀ {s : Sh0} {cs : List Value} {d : Dat}, rep M a s cs d → rep M b s cs d
  | .int, cs, .int z, h => by rw [rep] at h ⊢; exact h
  | .u8, cs, .int z, h => by rw [rep] at h ⊢; exact h
  | .bool, cs, .bool z, h => by rw [rep] at h ⊢; exact h
  | .str, cs, .str z, h => by rw [rep] at h ⊢; exact h
  | .st fs, cs, .st l, h => by rw [rep] at h ⊢; exact reps.gr hg h
  | .sl e, cs, .sl l, h => by
    rw [rep] at h ⊢
    rcases h with h | ⟨blk, off, cap, h1, h2, h3, h4, h5, h6, h7⟩
    · exact .inl h
    · refine .inr ⟨blk, off, cap, h1, h2, h3, h4, h5, Nat.lt_of_lt_of_le h6 hg.size, fun i hi => ?_⟩
      obtain ⟨ds, k1, k2, k3⟩ := h7 i hi
      exact ⟨ds, k1, fun j hj => hg.cell' (k2 j hj), rep.gr hg k3⟩
  | .int, cs, .bool _, h => by simp [rep] at h
  | .int, cs, .str _, h => by simp [rep] at h
  | .int, cs, .st _, h => by simp [rep] at h
  | .int, cs, .sl _, h => by simp [rep] at h
  | .u8, cs, .bool _, h => by simp [rep] at h
  | .u8, cs, .str _, h => by simp [rep] at h
  | .u8, cs, .st _, h => by simp [rep] at h
  | .u8, cs, .sl _, h => by simp [rep] at h
  | .bool, cs, .int _, h => by simp [rep] at h
  | .bool, cs, .str _, h => by simp [rep] at h
  | .bool, cs, .st _, h => by simp [rep] at h
  | .bool, cs, .sl _, h => by simp [rep] at h
  | .str, cs, .int _, h => by simp [rep] at h
  | .str, cs, .bool _, h => by simp [rep] at h
  | .str, cs, .st _, h => by simp [rep] at h
  | .str, cs, .sl _, h => by simp [rep] at h
  | .st _, cs, .int _, h => by simp [rep] at h
  | .st _, cs, .bool _, h => by simp [rep] at h
  | .st _, cs, .str _, h => by simp [rep] at h
  | .st _, cs, .sl _, h => by simp [rep] at h
  | .sl _, cs, .int _, h => by simp [rep] at h
  | .sl _, cs, .bool _, h => by simp [rep] at h
  | .sl _, cs, .str _, h => by simp [rep] at h
  | .sl _, cs, .st _, h => by simp [rep] at h
theorem reps.gr {M : Nat} {a b : World} (hg : Gr a b) : ∀ {ss : List Sh0} {cs : List Value} {l : List Dat}, reps M a ss cs l → reps M b ss cs l
  | [], cs, [], h => by rw [reps] at h ⊢; exact h
  | s :: ss, cs, d :: ds, h => by
    rw [reps] at h ⊢
    obtain ⟨x, y, h1, h2, h3⟩ := h
    exact ⟨x, y, h1, rep.gr hg h2, reps.gr hg h3⟩
  | [], cs, _ :: _, h => by simp [reps] at h
  | _ :: _, cs, [], h => by simp [reps] at h
end

section
variable {M : Nat} {w : World} {cs : List Value} {d : Dat}
theorem rep_int : rep M w .int cs d ↔ ∃ z, d = .int z ∧ cs = [.int .i64 z] ∧ -9223372036854775808 ≤ z ∧ z ≤ 9223372036854775807 := by cases d <;> simp [rep]
theorem rep_bool : rep M w .bool cs d ↔ ∃ b, d = .bool b ∧ cs = [.bool b] := by cases d <;> simp [rep]
theorem rep_str : rep M w .str cs d ↔ ∃ s, d = .str s ∧ cs = [.string s] ∧ s.size ≤ M := by cases d <;> simp [rep]
theorem rep_st {fs : List Sh0} : rep M w (.st fs) cs d ↔ ∃ l, d = .st l ∧ reps M w fs cs l := by cases d <;> simp [rep]
theorem reps_nil {l : List Dat} : reps M w [] cs l ↔ l = [] ∧ cs = [] := by cases l <;> simp [reps]
theorem reps_cons {s : Sh0} {ss : List Sh0} {l : List Dat} : reps M w (s :: ss) cs l ↔ ∃ a b d ds, cs = a ++ b ∧ l = d :: ds ∧ rep M w s a d ∧ reps M w ss b ds := by
  cases l with
  | nil => simp [reps]
  | cons x r =>
    rw [reps]
    constructor
    · rintro ⟨a, b, h1, h2, h3⟩; exact ⟨a, b, x, r, h1, rfl, h2, h3⟩
    · rintro ⟨a, b, d, ds, h1, h2, h3, h4⟩
      obtain ⟨rfl, rfl⟩ := List.cons.inj h2
      exact ⟨a, b, h1, h3, h4⟩
end

/-- an argument: a struct by value is its cells; all else is one cell -/
def repV (M : Nat) (w : World) (s : Sh0) (v : Value) (d : Dat) : Prop :=
  match s with
  | .st fs => ∃ cs : List Value, v = .agg cs.toArray ∧ rep M w (.st fs) cs d
  | s => rep M w s [v] d
theorem okWide_plain {P : Program} {w : World} {r : Reach} {b : Nat} {t : TypeId} {v : Value} (hv : Value.okWide P w r b t v)
    (h : (∃ k, P.underlying t = some (.int k)) ∨ P.underlying t = some .bool ∨ P.underlying t = some .string ∨ ∃ q, P.underlying t = some (.slice q)) : v.cells.toList = [v] := by
  cases v <;> first | rfl | skip
  rename_i cs
  rcases h with ⟨k, hu⟩ | hu | hu | ⟨q, hu⟩ <;> simp [Value.okWide, hu, Cell.okWide, Cell.ok] at hv
theorem open_arg {H : Type} {enc : TypeId × Value → H} {P : Program} {w : World} {base : Nat} {spare : Nat → Bool} {held : Bool} {M : Nat} {r : Reach} {b : Nat} (s : Sh0) {t : TypeId} {v : Value} {d : DataW H} {p : List MemPlace}
    (hf : fitsB P s t = true) (hv : Value.okWide P w r b t v) (h : DataW.Trod enc P w base spare held t v d p) (hM : lensLe M d) : ∃ D, repV M w s v D := by
  obtain ⟨fuel, hfu⟩ := h
  obtain ⟨D, hD⟩ := open_rep s t fuel _ (d, p) hf hfu hM
  refine ⟨D, ?_⟩
  cases s with
  | st fs =>
    simp only [fitsB] at hf
    split at hf
    · rename_i F hu
      simp only [Value.okWide, hu] at hv
      obtain ⟨cs, rfl, _⟩ := hv
      exact ⟨cs.toList, by simp, by simpa [Value.cells] using hD⟩
    · rename_i n q hu
      simp only [Value.okWide, hu] at hv
      obtain ⟨cs, rfl, _⟩ := hv
      exact ⟨cs.toList, by simp, by simpa [Value.cells] using hD⟩
    · simp at hf
  | int =>
    simp only [fitsB] at hf
    split at hf <;> simp at hf
    rename_i hu
    rw [okWide_plain hv (.inl ⟨_, hu⟩)] at hD; exact hD
  | u8 =>
    simp only [fitsB] at hf
    split at hf <;> simp at hf
    rename_i hu
    rw [okWide_plain hv (.inl ⟨_, hu⟩)] at hD; exact hD
  | bool =>
    simp only [fitsB] at hf
    split at hf <;> simp at hf
    rename_i hu
    rw [okWide_plain hv (.inr (.inl hu))] at hD; exact hD
  | str =>
    simp only [fitsB] at hf
    split at hf <;> simp at hf
    rename_i hu
    rw [okWide_plain hv (.inr (.inr (.inl hu)))] at hD; exact hD
  | sl e =>
    simp only [fitsB] at hf
    split at hf
    · rename_i q hu
      rw [okWide_plain hv (.inr (.inr (.inr ⟨_, hu⟩)))] at hD; exact hD
    · simp at hf

/-- a slice of the call's or of an argument's that reads as this list; R: what an element's cells say -/
def RdR {α : Type} (R : World → List Value → α → Prop) (k : Nat) (w : World) (v : Value) (l : List α) : Prop :=
  (l = [] ∧ ∃ q c, v = .slice q 0 c ∧ c ≤ maxLen ∧ (q = none → c = 0)) ∨
    ∃ blk off cap, v = .slice (some ⟨blk, off, none⟩) l.length cap ∧ 0 < l.length ∧ l.length ≤ cap ∧ cap ≤ maxLen ∧ blk < w.heap.size ∧
      ∀ (i : Nat) (h : i < l.length), ∃ ds : List Value, ds.length = k ∧ (∀ (j : Nat) (hj : j < ds.length), w.cell? ⟨blk, off + (i * k + j), none⟩ = some ds[j]) ∧ R w ds l[i]
theorem RdR.gr {α : Type} {R : World → List Value → α → Prop} (hR : ∀ a b ds x, Gr a b → R a ds x → R b ds x) {k : Nat} {a b : World} (hg : Gr a b) {v : Value} {l : List α} (h : RdR R k a v l) : RdR R k b v l := by
  rcases h with h | ⟨blk, off, cap, h1, h2, h4, h5, h6, h7⟩
  · exact .inl h
  · refine .inr ⟨blk, off, cap, h1, h2, h4, h5, Nat.lt_of_lt_of_le h6 hg.size, fun i hi => ?_⟩
    obtain ⟨ds, k1, k2, k3⟩ := h7 i hi
    exact ⟨ds, k1, fun j hj => hg.cell' (k2 j hj), hR a b ds _ hg k3⟩
theorem RdR.of_rep {α : Type} {R : World → List Value → α → Prop} {M : Nat} {w : World} {e : Sh0} {Q : α → Prop} (hc : ∀ ds d, rep M w e ds d → ∃ a, R w ds a ∧ Q a) {v : Value} {d : Dat} (h : rep M w (.sl e) [v] d) :
    ∃ l, RdR R e.size w v l ∧ l.length ≤ M ∧ ∀ a ∈ l, Q a := by
  cases d with
  | sl l =>
    rw [rep] at h
    rcases h with ⟨rfl, q, c, h1, h2⟩ | ⟨blk, off, cap, h1, h2, h3, h4, h5, h6, h7⟩
    · exact ⟨[], .inl ⟨rfl, q, c, by simpa using h1, h2⟩, by simp, by simp⟩
    · have hall : ∀ i, i < l.length → ∃ a : α, (∃ ds : List Value, ds.length = e.size ∧ (∀ (j : Nat) (hj : j < ds.length), w.cell? ⟨blk, off + (i * e.size + j), none⟩ = some ds[j]) ∧ R w ds a) ∧ Q a := by
        intro i hi
        obtain ⟨ds, k1, k2, k3⟩ := h7 i hi
        obtain ⟨a, ha, hq⟩ := hc ds _ k3
        exact ⟨a, ⟨ds, k1, k2, ha⟩, hq⟩
      obtain ⟨L, hL, hq⟩ := list_of_all hall
      refine ⟨L, .inr ⟨blk, off, cap, by rw [hL]; simpa using h1, by omega, by omega, h5, h6, fun i hi => (hq i hi).1⟩, by omega, fun a ha => ?_⟩
      obtain ⟨i, hi, rfl⟩ := List.mem_iff_getElem.1 ha
      exact (hq i hi).2
  | int => simp [rep] at h
  | bool => simp [rep] at h
  | str => simp [rep] at h
  | st => simp [rep] at h
end Go.Proofs.YthgecojbggoniaaGreatDoor
namespace Go.Proofs.YthgecojbggoniaaGreatDoor
open Go.RowKit
set_option linter.unusedVariables false
set_option linter.unusedSimpArgs false

section
variable {P : Program} {ops : Array Oper} {Q : Exit → Act → World → Prop} {md : Region.Mode} {S : World → Prop} {T : List Nat}

def wpAnyT (P : Program) (md : Region.Mode) (ops : Array Oper) (Q : Exit → Act → World → Prop) (S : World → Prop) (T : List Nat) : Nat → Array Bool → Act → World → Prop
  | 0, listed, a, w => Region.ready md ops listed = [] ∧ Q .normal a w
  | fuel + 1, listed, a, w =>
    (Region.ready md ops listed = [] → Q .normal a w) ∧
    ∀ i ∈ Region.ready md ops listed, wpOp P ops Q i (fun a' w' => (i ∉ T → S w') ∧ wpAnyT P md ops Q S T fuel (listed.setIfInBounds i true) a' w') a w
theorem wpAny_of_T : ∀ (fuel : Nat) (listed : Array Bool) (a : Act) (w : World), wpAnyT P md ops Q S T fuel listed a w → wpAny P md ops Q fuel listed a w
  | 0, _, _, _, h => h
  | fuel + 1, _, _, _, h => ⟨h.1, fun i hi => wpOp_mono (fun a' w' h' => wpAny_of_T fuel _ a' w' h'.2) (h.2 i hi)⟩
theorem wpAnyT_weaken {S' : World → Prop} (hS : ∀ w, S' w → S w) : ∀ (fuel : Nat) (listed : Array Bool) (a : Act) (w : World),
    wpAnyT P md ops Q S' T fuel listed a w → wpAnyT P md ops Q S T fuel listed a w
  | 0, _, _, _, h => h
  | fuel + 1, _, _, _, h => ⟨h.1, fun i hi => wpOp_mono (fun a' w' h' => ⟨fun hT => hS w' (h'.1 hT), wpAnyT_weaken hS fuel _ a' w' h'.2⟩) (h.2 i hi)⟩

/-- all that may come up while number i has not -/
def fillB (md : Region.Mode) (ops : Array Oper) (i : Nat) : Nat → Array Bool → Array Bool
  | 0, l => l
  | f + 1, l => fillB md ops i f ((Region.ready md ops l).foldl (fun l j => if j = i then l else l.setIfInBounds j true) l)
/-- those of T that are still to come wait for number i -/
def lateB (md : Region.Mode) (ops : Array Oper) (T : List Nat) (listed M : Array Bool) (i : Nat) : Bool :=
  decide (M.size = ops.size) && (Region.ready md ops M).all (fun j => decide (j = i)) && (List.range ops.size).all (fun k => !listed.getD k false || M.getD k false) && decide (listed.size = ops.size) && T.all (fun j => !M.getD j true || listed.getD j true)

theorem late_not {M : Array Bool} {i j : Nat} (hM : M.size = ops.size) (hr : ∀ j ∈ Region.ready md ops M, j = i) {listed : Array Bool} (h1 : ∀ k, listed.getD k false = true → M.getD k false = true)
    (hj : j ∈ Region.ready md ops listed) (hji : j ≠ i) : M.getD j true = true ∧ M.getD j false = true := by
  obtain ⟨hjun, oj, hoj, hall⟩ := mem_ready.1 hj
  have hlt : j < M.size := by rw [hM]; exact (Array.getElem?_eq_some_iff.1 hoj).1
  cases hm : M.getD j true with
  | true =>
    refine ⟨rfl, ?_⟩
    simp only [Array.getD, hlt, dif_pos] at hm ⊢
    exact hm
  | false => exact absurd (hr j (mem_ready.2 ⟨hm, oj, hoj, fun e he hb => h1 _ (hall e he hb)⟩)) hji

theorem wpAnyT_first {i : Nat} {oi : Oper} {v : Value} (hi : ops[i]? = some oi) (hsel : ∀ (j : Nat) (o : Oper) cs b, ops[j]? = some o → o.op ≠ .select cs b)
    (hQ : ∀ c a w, Q (.panic c) (a.put oi.dst v) w → Q (.panic c) a w) {M : Array Bool} (hM : M.size = ops.size) (hMr : ∀ j ∈ Region.ready md ops M, j = i) :
    ∀ (fuel : Nat) (listed : Array Bool) (a : Act) (w : World),
      (∀ k, listed.getD k false = true → M.getD k false = true) → (∀ j ∈ T, M.getD j true = true → listed.getD j true = true) →
      (∀ j oj, ops[j]? = some oj → j ≠ i → listed.getD j true = false → (∀ e ∈ oj.after, Region.binds md e = true → e.on ≠ i) → oi.apart ops oj = true) →
      i ∈ Region.ready md ops listed → YieldsIf P ops S oi v a → S w →
      wpAnyT P md ops Q S T fuel (listed.setIfInBounds i true) (a.put oi.dst v) w → wpAnyT P md ops Q S T (fuel + 1) listed a w := by
  intro fuel
  induction fuel with
  | zero =>
    intro listed a w _ _ _ hr hy hS H
    refine ⟨fun h => (by rw [h] at hr; cases hr), fun j hj => ?_⟩
    by_cases hji : j = i
    · subst hji; exact hy.wpOp hi hS ⟨fun _ => hS, H⟩
    · have := ready_mono hj hji
      rw [H.1] at this
      cases this
  | succ fuel ih =>
    intro listed a w hI1 hI2 hfree hr hy hS H
    refine ⟨fun h => (by rw [h] at hr; cases hr), fun j hj => ?_⟩
    by_cases hji : j = i
    · subst hji; exact hy.wpOp hi hS ⟨fun _ => hS, H⟩
    · have h1 := H.2 j (ready_mono hj hji)
      obtain ⟨hm1, hm2⟩ := late_not hM hMr hI1 hj hji
      obtain ⟨hjun, oj, hoj, hall⟩ := mem_ready.1 hj
      have hjT : j ∉ T := fun hT => by
        have := hI2 j hT hm1
        rw [hjun] at this
        cases this
      have hnot : ∀ e ∈ oj.after, Region.binds md e = true → e.on ≠ i := fun e he hb heq => by
        have h1 := hall e he hb
        have h0 := (mem_ready.1 hr).1
        rw [heq] at h1
        rcases Nat.lt_or_ge i listed.size with h' | h'
        · simp [h'] at h0 h1; rw [h0] at h1; cases h1
        · simp [Array.getElem?_eq_none h'] at h1
      have h2 := wpOp_putIf hoj (hfree j oj hoj hji hjun hnot) (fun cs b => hsel i oi cs b hi) (fun cs b => hsel j oj cs b hoj) hQ hy h1
      have hfree' : ∀ k ok, ops[k]? = some ok → k ≠ i → (listed.setIfInBounds j true).getD k true = false →
          (∀ e ∈ ok.after, Region.binds md e = true → e.on ≠ i) → oi.apart ops ok = true := fun k ok hk hki hun hno => by
        refine hfree k ok hk hki ?_ hno
        by_cases hjk : j = k
        · subst hjk; exact hjun
        · rw [getD_set_ne true hjk] at hun; exact hun
      refine wpOp_mono (fun a' w' h3 => ⟨h3.2.1, ih (listed.setIfInBounds j true) a' w' ?_ ?_ hfree' (ready_mono hr (Ne.symm hji)) h3.1 (h3.2.1 hjT) ?_⟩) h2
      · intro k hk
        by_cases hjk : j = k
        · subst hjk; exact hm2
        · rw [getD_set_ne false hjk] at hk; exact hI1 k hk
      · intro k hk hmk
        by_cases hjk : j = k
        · subst hjk
          have hlt : j < (listed.setIfInBounds j true).size ∨ ¬ j < (listed.setIfInBounds j true).size := by omega
          rcases hlt with h | h
          · simp only [Array.getD, h, dif_pos]; simp
          · simp only [Array.getD, h, dif_neg]; simp
        · rw [getD_set_ne true hjk]; exact hI2 k hk hmk
      · rw [Array.setIfInBounds_comm _ _ hji]
        exact h3.2.2

/-! the moves -/
theorem wpAnyT_take {i : Nat} {oi : Oper} {v : Value} {fuel : Nat} {listed : Array Bool} {a : Act} {w : World} (hi : ops[i]? = some oi)
    (hs : Region.noSelect ops = true) (hf : Region.free md ops listed i = true) (hr : (Region.ready md ops listed).contains i = true) (hl : lateB md ops T listed (fillB md ops i ops.size listed) i = true)
    (hQ : ∀ c a w, Q (.panic c) (a.put oi.dst v) w → Q (.panic c) a w) (hy : YieldsIf P ops S oi v a) (hS : S w)
    (h : wpAnyT P md ops Q S T fuel (listed.setIfInBounds i true) (a.put oi.dst v) w) : wpAnyT P md ops Q S T (fuel + 1) listed a w := by
  simp only [lateB, Bool.and_eq_true, decide_eq_true_eq, List.all_eq_true, List.mem_range, Bool.or_eq_true, Bool.not_eq_true'] at hl
  obtain ⟨⟨⟨⟨h1, h2⟩, h3⟩, h4⟩, h5⟩ := hl
  refine wpAnyT_first hi (Region.noSelect_spec hs) hQ h1 h2 fuel listed a w (fun k hk => ?_) (fun j hj hm => ?_) (Region.free_spec hi hf) (by simpa using hr) hy hS h
  · have hk' : k < ops.size := by
      rw [← h4]
      rcases Nat.lt_or_ge k listed.size with h' | h'
      · exact h'
      · simp [Array.getD, Nat.not_lt.2 h'] at hk
    rcases h3 k hk' with h | h
    · rw [h] at hk; cases hk
    · exact h
  · rcases h5 j hj with h | h
    · rw [h] at hm; cases hm
    · exact h
def AllReadyT (P : Program) (md : Region.Mode) (ops : Array Oper) (Q : Exit → Act → World → Prop) (S : World → Prop) (T : List Nat) (fuel : Nat) (listed : Array Bool) (a : Act) (w : World) (rs : List Nat) : Prop :=
  ∀ i ∈ rs, wpOp P ops Q i (fun a' w' => (i ∉ T → S w') ∧ wpAnyT P md ops Q S T fuel (listed.setIfInBounds i true) a' w') a w
theorem AllReadyT.nil {fuel : Nat} {listed : Array Bool} {a : Act} {w : World} : AllReadyT P md ops Q S T fuel listed a w [] := fun _ h => by cases h
/-- one that keeps S -/
theorem AllReadyT.cons {fuel : Nat} {listed : Array Bool} {a : Act} {w : World} {i : Nat} {o : Oper} {rs : List Nat} (ho : ops[i]? = some o)
    (h : ∀ K' : Act → World → Prop, Shut (∀ a w, S w → (S w → wpAnyT P md ops Q S T fuel (listed.setIfInBounds i true) a w) → K' a w) → if Region.wanted o (yielded ops a.tmps) = true then Oper.wp P o a w K' Q else K' (a.put o.dst undef) w)
    (hs : AllReadyT P md ops Q S T fuel listed a w rs) : AllReadyT P md ops Q S T fuel listed a w (i :: rs) := fun j hj => by
  rcases List.mem_cons.1 hj with rfl | hj
  · exact wpOp_step ho (fun K' hK => h K' (fun a w hS hW => hK a w ⟨fun _ => hS, hW hS⟩))
  · exact hs j hj
theorem wpAnyT_ready {rs : List Nat} {fuel : Nat} {listed : Array Bool} {a : Act} {w : World} (hr : Region.ready md ops listed = rs) (hne : rs ≠ [])
    (h : AllReadyT P md ops Q S T fuel listed a w rs) : wpAnyT P md ops Q S T (fuel + 1) listed a w :=
  ⟨fun h0 => absurd (hr ▸ h0) hne, hr ▸ h⟩
theorem wpAnyT_done {listed : Array Bool} {a : Act} {w : World} (hr : Region.ready md ops listed = []) (h : Q .normal a w) :
    ∀ fuel, wpAnyT P md ops Q S T fuel listed a w
  | 0 => ⟨hr, h⟩
  | _ + 1 => ⟨fun _ => h, by rw [hr]; simp⟩
theorem wp_region_T {id : Nat} {a : Act} {w : World} (T : List Nat) (hm : P.follows .mixedOrders = true) (hS : S w.drew)
    (h : S w.drew → wpAnyT P .any ops Q S T ops.size (Array.replicate ops.size false) a w.drew) : (Code.region id ops true).wp P Q a w :=
  wp_region_any hm (wpAny_of_T _ _ _ _ (h hS))

/-- all that is still to come is of the tail, and comes in the order of the text -/
theorem wpAnyT_of_any : ∀ (fuel : Nat) (listed : Array Bool) (a : Act) (w : World), (∀ j, j ∈ Region.ready md ops listed → j ∈ T) → (∀ j < ops.size, listed.getD j true = false → j ∈ T) →
    wpAny P md ops Q fuel listed a w → wpAnyT P md ops Q S T fuel listed a w
  | 0, _, _, _, _, _, h => h
  | fuel + 1, listed, a, w, hT, hU, h => ⟨h.1, fun i hi => wpOp_mono (fun a' w' h' => ⟨fun hn => absurd (hT i hi) hn, wpAnyT_of_any fuel _ a' w' (fun j hj => by
      obtain ⟨hjun, oj, hoj, _⟩ := mem_ready.1 hj
      refine hU j (Array.getElem?_eq_some_iff.1 hoj).1 ?_
      by_cases hij : i = j
      · subst hij
        exfalso
        have hlt : i < (listed.setIfInBounds i true).size ∨ ¬ i < (listed.setIfInBounds i true).size := by omega
        rcases hlt with h | h
        · simp only [Array.getD, h, dif_pos] at hjun; simp at hjun
        · simp only [Array.getD, h, dif_neg] at hjun; simp at hjun
      · rw [getD_set_ne true hij] at hjun; exact hjun) (fun j hj hun => by
      by_cases hij : i = j
      · subst hij; exact hT i hi
      · rw [getD_set_ne true hij] at hun; exact hU j hj hun) h'⟩) (h.2 i hi)⟩
/-- the operations of these numbers -/
inductive Picks (ops : Array Oper) : List Nat → List Oper → Prop
  | nil : Picks ops [] []
  | cons {k : Nat} {o : Oper} {ks : List Nat} {l : List Oper} : ops[k]? = some o → Picks ops ks l → Picks ops (k :: ks) (o :: l)
/-- just these come up, one behind the other -/
def chainK (md : Region.Mode) (ops : Array Oper) : List Nat → Array Bool → Bool
  | [], listed => (Region.ready md ops listed).isEmpty
  | k :: ks, listed => decide (Region.ready md ops listed = [k]) && chainK md ops ks (listed.setIfInBounds k true)
theorem wpAny_of_chain : ∀ (ks : List Nat) (l : List Oper) (listed : Array Bool) (a : Act) (w : World), Picks ops ks l →
    chainK md ops ks listed = true → wpList P ops Q l a w → wpAny P md ops Q l.length listed a w
  | [], _, _, _, _, .nil, hB, h => ⟨by simpa [chainK] using hB, h⟩
  | k :: ks, _, listed, a, w, .cons (o := o) (l := l) ho hp, hB, h => by
    simp only [chainK, Bool.and_eq_true, decide_eq_true_eq] at hB
    refine ⟨fun h1 => (by rw [hB.1] at h1; cases h1), fun i hi => ?_⟩
    rw [hB.1] at hi
    have hik : i = k := by simpa using hi
    subst hik
    have hw : wpOp P ops Q i (wpList P ops Q l) a w := by unfold wpOp; simp only [ho]; exact h
    exact wpOp_mono (fun a' w' h' => wpAny_of_chain ks l _ a' w' hp hB.2 h') hw
theorem wpAnyT_chain (ks : List Nat) {l : List Oper} {fuel : Nat} {listed : Array Bool} {a : Act} {w : World} (hp : Picks ops ks l) (hT : ((List.range ops.size).all fun j => listed.getD j true || T.contains j) = true)
    (hB : chainK md ops ks listed = true) (hf : fuel = l.length) (h : wpList P ops Q l a w) : wpAnyT P md ops Q S T fuel listed a w := by
  subst hf
  have hU : ∀ j < ops.size, listed.getD j true = false → j ∈ T := fun j hj hun => by
    have := List.all_eq_true.1 hT j (List.mem_range.2 hj)
    simpa [hun] using this
  exact wpAnyT_of_any _ _ _ _ (fun j hj => by
    obtain ⟨hjun, oj, hoj, _⟩ := mem_ready.1 hj
    exact hU j (Array.getElem?_eq_some_iff.1 hoj).1 hjun) hU (wpAny_of_chain ks l listed a w hp hB h)
end
end Go.Proofs.YthgecojbggoniaaGreatDoor
namespace Go.Proofs.YthgecojbggoniaaGreatDoor
open Go.RowKit
set_option maxRecDepth 100000
set_option linter.unusedVariables false
set_option linter.unusedSimpArgs false

theorem bring_neg {i n : Int} (hn : 0 < n) (hn2 : n ≤ 9223372036854775807) (h : i.tmod n < 0) : wrap64 (i.tmod n + n) = i % n := by
  have h3 := Int.emod_nonneg i (show n ≠ 0 by omega)
  have h4 := Int.emod_lt_of_pos i hn
  have h2 : i.tmod n = i % n - n := by
    rw [Int.tmod_eq_emod] at h ⊢
    split at h <;> rename_i hc
    · omega
    · rw [if_neg hc, Int.natAbs_of_nonneg (by omega)]
  rw [h2]
  unfold wrap64
  omega
theorem bring_pos {i n : Int} (hn : 0 < n) (h : 0 ≤ i.tmod n) : i.tmod n = i % n := by
  rw [Int.tmod_eq_emod] at h ⊢
  have := Int.emod_nonneg i (show n ≠ 0 by omega)
  have := Int.emod_lt_of_pos i hn
  split at h <;> rename_i hc
  · rw [if_pos hc]; omega
  · rw [if_neg hc]; omega

theorem bring_any (i n : Int) (hi : -9223372036854775808 ≤ i ∧ i ≤ 9223372036854775807) (hn : n ≤ 9223372036854775807) (w : World) :
    Calls Tryz.prog 20 #[.int .i64 i, .int .i64 n] w fun e w' => e = .returned (.int .i64 (bringI i n)) ∧ w = w' := by
  obtain ⟨hi1, hi2⟩ := hi
  go_enter Tryz.func20, Tryz.ntmps20
  go_wp2
  · go_ret; exact ⟨ret_int (by unfold bringI; rw [if_pos (by assumption)]), rfl⟩
  · go_ret; exact ⟨ret_int (by unfold bringI; rw [if_neg (by omega)]; exact bring_neg (by assumption) hn (by assumption)), rfl⟩
  · go_ret; exact ⟨ret_int (by unfold bringI; rw [if_neg (by omega)]; exact bring_pos (by assumption) (by assumption)), rfl⟩

theorem bring_bd (i : Int) {n : Int} (hn : 0 < n) : 0 ≤ bringI i n ∧ bringI i n < n := by
  unfold bringI
  rw [if_neg (by omega)]
  exact ⟨Int.emod_nonneg _ (by omega), Int.emod_lt_of_pos _ hn⟩
end Go.Proofs.YthgecojbggoniaaGreatDoor
