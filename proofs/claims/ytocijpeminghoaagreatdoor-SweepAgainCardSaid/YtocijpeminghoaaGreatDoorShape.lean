/- Arguments of whatever shape, opened: what reads as a datum is a tree of numbers, texts, structs and slices. No program in sight but as a variable. -/
import Derived.Test.YtocijpeminghoaaGreatDoorBase
import Derived.Deep.Slices
import Derived.OpenShut
import Derived.Deep.DeepHandedRow
import Derived.SizedLaws
namespace Go.Proofs.YtocijpeminghoaaGreatDoor
open Go.ChangeShapes Go.WideShapes Go.ChangeAt Go.RowKit
set_option linter.unusedVariables false

inductive Sh0 where
  | int | u8 | bool | str
  | st (fs : List Sh0)
  | sl (e : Sh0)
inductive Dat where
  | int (z : Int)
  | bool (b : Bool)
  | str (s : ByteArray)
  | st (l : List Dat)
  | sl (l : List Dat)

mutual
def Sh0.size : Sh0 → Nat
  | .st fs => Sh0.sizes fs
  | .int => 1 | .u8 => 1 | .bool => 1 | .str => 1
  | .sl _ => 1
def Sh0.sizes : List Sh0 → Nat
  | [] => 0
  | f :: r => f.size + Sh0.sizes r
end
mutual
def fitsB (P : Program) : Sh0 → TypeId → Bool
  | .int, t => (match P.underlying t with | some (.int .i64) => true | _ => false)
  | .u8, t => (match P.underlying t with | some (.int .u8) => true | _ => false)
  | .bool, t => (match P.underlying t with | some .bool => true | _ => false)
  | .str, t => (match P.underlying t with | some .string => true | _ => false)
  | .st fs, t => (match P.underlying t with
    | some (.struct F) => P.cellsOf t == Sh0.sizes fs && fitsF P fs F.toList 0
    | some (.array n q) => P.cellsOf t == Sh0.sizes fs && n == fs.length && fitsA P fs q
    | _ => false)
  | .sl e, t => (match P.underlying t with
    | some (.slice q) => P.cellsOf q == e.size && decide (1 ≤ e.size) && decide (1 ≤ P.bytesOf q) && fitsB P e q
    | _ => false)
def fitsF (P : Program) : List Sh0 → List Field → Nat → Bool
  | [], [], _ => true
  | s :: ss, f :: fs, o => f.offset == o && P.cellsOf f.type == s.size && fitsB P s f.type && fitsF P ss fs (o + s.size)
  | _, _, _ => false
def fitsA (P : Program) : List Sh0 → TypeId → Bool
  | [], _ => true
  | s :: ss, q => P.cellsOf q == s.size && fitsB P s q && fitsA P ss q
end

mutual
/-- these cells, in this world, are this datum; texts and slices have at most M elements -/
def rep (M : Nat) (w : World) : Sh0 → List Value → Dat → Prop
  | .int, cs, .int z => cs = [.int .i64 z] ∧ -9223372036854775808 ≤ z ∧ z ≤ 9223372036854775807
  | .u8, cs, .int z => cs = [.int .u8 z] ∧ 0 ≤ z ∧ z ≤ 255
  | .bool, cs, .bool b => cs = [.bool b]
  | .str, cs, .str s => cs = [.string s] ∧ s.size ≤ M
  | .st fs, cs, .st l => reps M w fs cs l
  | .sl e, cs, .sl l => (l = [] ∧ ∃ q c, cs = [.slice q 0 c] ∧ c ≤ maxLen ∧ (q = none → c = 0)) ∨
      ∃ blk off cap, cs = [.slice (some ⟨blk, off, none⟩) l.length cap] ∧ 0 < l.length ∧ l.length ≤ M ∧ l.length ≤ cap ∧ cap ≤ maxLen ∧ blk < w.heap.size ∧
        ∀ (i : Nat) (h : i < l.length), ∃ ds : List Value, ds.length = e.size ∧ (∀ (j : Nat) (hj : j < ds.length), w.cell? ⟨blk, off + (i * e.size + j), none⟩ = some ds[j]) ∧ rep M w e ds l[i]
  | _, _, _ => False
def reps (M : Nat) (w : World) : List Sh0 → List Value → List Dat → Prop
  | [], cs, [] => cs = []
  | s :: ss, cs, d :: ds => ∃ a b, cs = a ++ b ∧ rep M w s a d ∧ reps M w ss b ds
  | _, _, _ => False
end

mutual
/-- texts and slices of a datum have at most M elements -/
def lensLe {H : Type} (M : Nat) : DataW H → Prop
  | .lit (.string b) => b.length ≤ M
  | .slice el _ => el.length ≤ M ∧ lensLeL M el
  | .agg l => lensLeL M l
  | _ => True
def lensLeL {H : Type} (M : Nat) : List (DataW H) → Prop
  | [] => True
  | d :: r => lensLe M d ∧ lensLeL M r
end
theorem lensLeL_mem {H : Type} {M : Nat} : ∀ {l : List (DataW H)}, lensLeL M l → ∀ d ∈ l, lensLe M d
  | d :: r, h, x, hx => by
    rcases List.mem_cons.1 hx with rfl | hx
    · exact h.1
    · exact lensLeL_mem h.2 x hx

theorem lensLeL_of {H : Type} {M : Nat} : ∀ {l : List (DataW H)}, (∀ d ∈ l, lensLe M d) → lensLeL M l
  | [], _ => by simp [lensLeL]
  | d :: r, h => ⟨h d (List.mem_cons_self ..), lensLeL_of fun x hx => h x (List.mem_cons_of_mem _ hx)⟩
theorem weightsAll_mem {H : Type} {P : Program} {q : TypeId} : ∀ {l : List (DataW H)} {d : DataW H}, d ∈ l → ∀ n ∈ d.weights P q, n ∈ DataW.weightsAll P q l
  | x :: r, d, h, n, hn => by
    simp only [DataW.weightsAll, List.mem_append]
    rcases List.mem_cons.1 h with rfl | h
    · exact .inl hn
    · exact .inr (weightsAll_mem h n hn)

theorem list_of_all {α : Type} {n : Nat} {Q : Nat → α → Prop} (h : ∀ i, i < n → ∃ a, Q i a) : ∃ l : List α, l.length = n ∧ ∀ (i : Nat) (hi : i < l.length), Q i l[i] := by
  induction n with
  | zero => exact ⟨[], rfl, fun i hi => by simp at hi⟩
  | succ n ih =>
    obtain ⟨l, hl, hq⟩ := ih (fun i hi => h i (by omega))
    obtain ⟨a, ha⟩ := h n (by omega)
    refine ⟨l ++ [a], by simp [hl], fun i hi => ?_⟩
    by_cases hin : i < l.length
    · rw [List.getElem_append_left hin]; exact hq i hin
    · have : i = n := by simp [hl] at hi; omega
      subst this
      rw [List.getElem_append_right (by omega)]
      simpa [hl] using ha

section
variable {H : Type} {enc : TypeId × Value → H} {P : Program} {w : World} {base : Nat} {spare : Nat → Bool} {held : Bool} {M : Nat}

mutual
theorem open_rep : ∀ (s : Sh0) (t : TypeId) (fuel : Nat) (cs : List Value) (x : DataW H × List MemPlace), fitsB P s t = true → DataW.trod enc P w base spare held fuel t cs = some x → lensLe M x.1 → ∃ d, rep M w s cs d
  | .int, t, fuel, cs, x, hf, h, hM => by
    simp only [fitsB] at hf
    split at hf <;> simp at hf
    rename_i hu
    obtain ⟨n, rfl, rfl, hw⟩ := DataW.trod_int hu h
    exact ⟨.int n, rfl, bounds_i64 hw⟩
  | .u8, t, fuel, cs, x, hf, h, hM => by
    simp only [fitsB] at hf
    split at hf <;> simp at hf
    rename_i hu
    obtain ⟨n, rfl, rfl, hw⟩ := DataW.trod_int hu h
    exact ⟨.int n, rfl, bounds_u8 hw⟩
  | .bool, t, fuel, cs, x, hf, h, hM => by
    simp only [fitsB] at hf
    split at hf <;> simp at hf
    rename_i hu
    obtain ⟨b, rfl, rfl⟩ := DataW.trod_bool hu h
    exact ⟨.bool b, rfl⟩
  | .str, t, fuel, cs, x, hf, h, hM => by
    simp only [fitsB] at hf
    split at hf <;> simp at hf
    rename_i hu
    obtain ⟨s, rfl, rfl, hs⟩ := DataW.trod_string hu h
    exact ⟨.str s, rfl, by simpa [lensLe] using hM⟩
  | .st fs, t, fuel, cs, x, hf, h, hM => by
    simp only [fitsB] at hf
    split at hf
    · rename_i F hu
      simp only [Bool.and_eq_true, beq_iff_eq] at hf
      obtain ⟨xs, n, rfl, rfl, hl, hxl, hx⟩ := DataW.trod_struct hu h
      have hM' : lensLeL M (xs.map (·.1)) := by simpa [lensLe] using hM
      obtain ⟨ds, hd⟩ := open_reps fs F.toList 0 n cs xs hf.2 (fun i f hi => hx i f (by rw [← hi, Array.getElem?_toList])) (by simpa using hxl) (by rw [hl, hf.1]; simp)
        (fun y hy => lensLeL_mem hM' _ (List.mem_map_of_mem hy))
      exact ⟨.st ds, by simpa [rep] using hd⟩
    · rename_i nn q hu
      simp only [Bool.and_eq_true, beq_iff_eq] at hf
      obtain ⟨xs, n, rfl, rfl, hl, hxl, hx⟩ := DataW.trod_array hu h
      have hM' : lensLeL M (xs.map (·.1)) := by simpa [lensLe] using hM
      obtain ⟨ds, hd⟩ := open_repsA fs q 0 n cs xs hf.2 (fun i hi => by simpa using hx i (by rw [hf.1.2]; exact hi)) (by rw [hxl, hf.1.2]) (by rw [hl, hf.1.1]; simp)
        (fun y hy => lensLeL_mem hM' _ (List.mem_map_of_mem hy))
      exact ⟨.st ds, by simpa [rep] using hd⟩
    · simp at hf
  | .sl e, t, fuel, cs, x, hf, h, hM => by
    simp only [fitsB] at hf
    split at hf
    · rename_i q hu
      simp only [Bool.and_eq_true, beq_iff_eq] at hf
      rcases Go.Deep.open_slice hu h with ⟨rfl, rfl⟩ | ⟨a, len, cap, m, n, D, Pl, rfl, hb, hl, hm, hmm, rfl, hi⟩
      · exact ⟨.sl [], by rw [rep]; exact .inl ⟨rfl, none, 0, rfl, by unfold maxLen; omega, fun _ => rfl⟩⟩
      · have hM' : len ≤ M ∧ lensLeL M ((List.range len).map D) := by simpa [lensLe] using hM
        by_cases h0 : len = 0
        · subst h0
          refine ⟨.sl [], ?_⟩
          rw [rep]
          exact .inl ⟨rfl, _, _, rfl, hm, fun h => by simp at h⟩
        · have hmi : len ≤ m := by rw [hmm]; split <;> omega
          have hal : ∀ i, i < len → ∃ d : Dat, ∃ ds : List Value, ds.length = e.size ∧ (∀ (j : Nat) (hj : j < ds.length), w.cell? (a.add (i * e.size + j)) = some ds[j]) ∧ rep M w e ds d := by
            intro i hil
            obtain ⟨cs', hc, ht⟩ := hi i (by omega)
            obtain ⟨_, hcl, hat⟩ := World.cells?_some hc
            have hMi : lensLe M (D i) := lensLeL_mem hM'.2 _ (List.mem_map_of_mem (List.mem_range.2 hil))
            obtain ⟨d, hd⟩ := open_rep e q n cs' (D i, Pl i) hf.2 ht hMi
            refine ⟨d, cs', by rw [hcl, hf.1.1.1], fun j hj => ?_, hd⟩
            have := hat j (by omega)
            rw [Go.Deep.add_add, hf.1.1.1] at this
            rw [this]
            exact List.getElem?_eq_getElem hj
          obtain ⟨l, hll, hq⟩ := list_of_all hal
          refine ⟨.sl l, ?_⟩
          rw [rep]
          obtain ⟨b, off, spot⟩ := a
          -- the first element is read: so the address is plain
          have hz : 1 ≤ e.size := by simpa using hf.1.1.2
          · have hpl : spot = none := by
              obtain ⟨ds, h1, h2, _⟩ := hq 0 (by omega)
              have := h2 0 (by omega)
              simp [Addr.add] at this
              exact World.cell?_spot this
            subst hpl
            have hbl : b < w.heap.size := by
              obtain ⟨ds, h1, h2, _⟩ := hq 0 (by omega)
              have := h2 0 (by omega)
              simp [Addr.add] at this
              exact World.block_lt_of_cell? w ⟨b, off, none⟩ this
            refine .inr ⟨b, off, cap, by rw [hll], by omega, by omega, by omega, hm, hbl, fun i hil => ?_⟩
            obtain ⟨ds, h1, h2, h3⟩ := hq i hil
            exact ⟨ds, h1, fun j hj => by rw [← Addr.add_lit]; exact h2 j hj, h3⟩
    · simp at hf
theorem open_reps : ∀ (ss : List Sh0) (fs : List Field) (o n : Nat) (cs : List Value) (xs : List (DataW H × List MemPlace)), fitsF P ss fs o = true →
    (∀ (i : Nat) (f : Field), fs[i]? = some f → DataW.trod enc P w base spare held n f.type ((cs.drop f.offset).take (P.cellsOf f.type)) = xs[i]?) → xs.length = fs.length → cs.length = o + Sh0.sizes ss → (∀ y ∈ xs, lensLe M y.1) → ∃ ds, reps M w ss (cs.drop o) ds
  | [], fs, o, n, cs, xs, hf, hx, hxl, hl, hM => by
    cases fs with
    | nil => exact ⟨[], by simp [reps, Sh0.sizes] at hl ⊢; omega⟩
    | cons => simp [fitsF] at hf
  | s :: ss, fs, o, n, cs, xs, hf, hx, hxl, hl, hM => by
    cases fs with
    | nil => simp [fitsF] at hf
    | cons f fs =>
      simp only [fitsF, Bool.and_eq_true, beq_iff_eq] at hf
      obtain ⟨⟨⟨ho, hc⟩, hb⟩, hr⟩ := hf
      cases xs with
      | nil => simp at hxl
      | cons y ys =>
        have h0 := hx 0 f rfl
        simp only [List.getElem?_cons_zero] at h0
        obtain ⟨d, hd⟩ := open_rep s f.type n _ y hb h0 (hM y (List.mem_cons_self ..))
        obtain ⟨ds, hds⟩ := open_reps ss fs (o + s.size) n cs ys hr (fun i g hi => by simpa using hx (i + 1) g (by simpa using hi)) (by simpa using hxl) (by simp [Sh0.sizes] at hl; omega) (fun z hz => hM z (List.mem_cons_of_mem _ hz))
        refine ⟨d :: ds, ?_⟩
        rw [reps]
        refine ⟨_, _, ?_, hd, hds⟩
        rw [ho, hc, ← List.drop_drop]
        exact (List.take_append_drop _ _).symm
theorem open_repsA : ∀ (ss : List Sh0) (q : TypeId) (k n : Nat) (cs : List Value) (xs : List (DataW H × List MemPlace)), fitsA P ss q = true →
    (∀ (i : Nat), i < ss.length → DataW.trod enc P w base spare held n q ((cs.drop ((k + i) * P.cellsOf q)).take (P.cellsOf q)) = xs[i]?) → xs.length = ss.length → cs.length = k * P.cellsOf q + Sh0.sizes ss → (∀ y ∈ xs, lensLe M y.1) → ∃ ds, reps M w ss (cs.drop (k * P.cellsOf q)) ds
  | [], q, k, n, cs, xs, hf, hx, hxl, hl, hM => ⟨[], by simp [reps, Sh0.sizes] at hl ⊢; omega⟩
  | s :: ss, q, k, n, cs, xs, hf, hx, hxl, hl, hM => by
    simp only [fitsA, Bool.and_eq_true, beq_iff_eq] at hf
    obtain ⟨⟨hc, hb⟩, hr⟩ := hf
    cases xs with
    | nil => simp at hxl
    | cons y ys =>
      have h0 := hx 0 (by simp)
      simp only [List.getElem?_cons_zero, Nat.add_zero] at h0
      obtain ⟨d, hd⟩ := open_rep s q n _ y hb h0 (hM y (List.mem_cons_self ..))
      obtain ⟨ds, hds⟩ := open_repsA ss q (k + 1) n cs ys hr (fun i hi => by simpa [Nat.add_assoc, Nat.add_comm 1 i] using hx (i + 1) (by simpa using hi)) (by simpa using hxl) (by simp [Sh0.sizes, Nat.add_mul] at hl ⊢; omega) (fun z hz => hM z (List.mem_cons_of_mem _ hz))
      refine ⟨d :: ds, ?_⟩
      rw [reps]
      refine ⟨_, _, ?_, hd, hds⟩
      rw [Nat.add_mul, Nat.one_mul, ← List.drop_drop]
      exact (List.take_append_drop _ _).symm
end

mutual
theorem lens_of_weights (hM : reachBytes ≤ M) : ∀ (s : Sh0) (t : TypeId) (fuel : Nat) (cs : List Value) (x : DataW H × List MemPlace), fitsB P s t = true → DataW.trod enc P w base spare held fuel t cs = some x → (∀ n ∈ x.1.weights P t, n ≤ reachBytes) → lensLe M x.1
  | .int, t, fuel, cs, x, hf, h, hw => by
    simp only [fitsB] at hf
    split at hf <;> simp at hf
    rename_i hu
    obtain ⟨n, rfl, rfl, _⟩ := DataW.trod_int hu h
    simp [lensLe]
  | .u8, t, fuel, cs, x, hf, h, hw => by
    simp only [fitsB] at hf
    split at hf <;> simp at hf
    rename_i hu
    obtain ⟨n, rfl, rfl, _⟩ := DataW.trod_int hu h
    simp [lensLe]
  | .bool, t, fuel, cs, x, hf, h, hw => by
    simp only [fitsB] at hf
    split at hf <;> simp at hf
    rename_i hu
    obtain ⟨b, rfl, rfl⟩ := DataW.trod_bool hu h
    simp [lensLe]
  | .str, t, fuel, cs, x, hf, h, hw => by
    simp only [fitsB] at hf
    split at hf <;> simp at hf
    rename_i hu
    obtain ⟨s, rfl, rfl, hs⟩ := DataW.trod_string hu h
    have := hw s.data.toList.length (by simp [DataW.weights])
    simp only [lensLe]
    omega
  | .st fs, t, fuel, cs, x, hf, h, hw => by
    simp only [fitsB] at hf
    split at hf
    · rename_i F hu
      simp only [Bool.and_eq_true, beq_iff_eq] at hf
      obtain ⟨xs, n, rfl, rfl, hl, hxl, hx⟩ := DataW.trod_struct hu h
      simp only [DataW.weights, hu] at hw
      simp only [lensLe]
      exact lens_of_weightsF hM fs F.toList 0 n cs xs hf.2 (fun i f hi => hx i f (by rw [← hi, Array.getElem?_toList])) (by simpa using hxl) hw
    · rename_i nn q hu
      simp only [Bool.and_eq_true, beq_iff_eq] at hf
      obtain ⟨xs, n, rfl, rfl, hl, hxl, hx⟩ := DataW.trod_array hu h
      simp only [DataW.weights, hu] at hw
      simp only [lensLe]
      exact lens_of_weightsA hM fs q 0 n cs xs hf.2 (fun i hi => by simpa using hx i (by rw [hf.1.2]; exact hi)) (by rw [hxl, hf.1.2]) hw
    · simp at hf
  | .sl e, t, fuel, cs, x, hf, h, hw => by
    simp only [fitsB] at hf
    split at hf
    · rename_i q hu
      simp only [Bool.and_eq_true, beq_iff_eq] at hf
      rcases Go.Deep.open_slice hu h with ⟨rfl, rfl⟩ | ⟨a, len, cap, m, n, D, Pl, rfl, hb, hl, hm, hmm, rfl, hi⟩
      · simp [lensLe]
      · have hmi : len ≤ m := by rw [hmm]; split <;> omega
        simp only [DataW.weights, hu] at hw
        simp only [lensLe]
        have h1 : 1 ≤ P.bytesOf q := by simpa using hf.1.2
        have h2 := hw _ (List.mem_cons_self ..)
        have h3 : len * 1 ≤ (len + (m - len)) * P.bytesOf q := Nat.mul_le_mul (by omega) h1
        simp only [List.length_map, List.length_range] at h2 ⊢
        refine ⟨by omega, ?_⟩
        have hall : ∀ i, i < len → lensLe M (D i) := by
          intro i hil
          obtain ⟨cs', hc, ht⟩ := hi i (by omega)
          refine lens_of_weights hM e q n cs' (D i, Pl i) hf.2 ht (fun z hz => hw z (List.mem_cons_of_mem _ (List.mem_append_left _ ?_)))
          exact weightsAll_mem (List.mem_map_of_mem (List.mem_range.2 hil)) z hz
        exact lensLeL_of (fun d hd => by
          obtain ⟨i, hi, rfl⟩ := List.mem_map.1 hd
          exact hall i (List.mem_range.1 hi))
    · simp at hf
theorem lens_of_weightsF (hM : reachBytes ≤ M) : ∀ (ss : List Sh0) (fs : List Field) (o n : Nat) (cs : List Value) (xs : List (DataW H × List MemPlace)), fitsF P ss fs o = true →
    (∀ (i : Nat) (f : Field), fs[i]? = some f → DataW.trod enc P w base spare held n f.type ((cs.drop f.offset).take (P.cellsOf f.type)) = xs[i]?) → xs.length = fs.length → (∀ n ∈ DataW.weightsEach P (fs.map (·.type)) (xs.map (·.1)), n ≤ reachBytes) → lensLeL M (xs.map (·.1))
  | [], fs, o, n, cs, xs, hf, hx, hxl, hw => by
    cases fs with
    | nil => cases xs with
      | nil => simp [lensLeL]
      | cons => simp at hxl
    | cons => simp [fitsF] at hf
  | s :: ss, fs, o, n, cs, xs, hf, hx, hxl, hw => by
    cases fs with
    | nil => simp [fitsF] at hf
    | cons f fs =>
      simp only [fitsF, Bool.and_eq_true, beq_iff_eq] at hf
      obtain ⟨⟨⟨ho, hc⟩, hb⟩, hr⟩ := hf
      cases xs with
      | nil => simp at hxl
      | cons y ys =>
        have h0 := hx 0 f rfl
        simp only [List.getElem?_cons_zero] at h0
        simp only [List.map_cons, DataW.weightsEach, List.mem_append] at hw
        simp only [List.map_cons, lensLeL]
        exact ⟨lens_of_weights hM s f.type n _ y hb h0 (fun z hz => hw z (.inl hz)), lens_of_weightsF hM ss fs (o + s.size) n cs ys hr (fun i g hi => by simpa using hx (i + 1) g (by simpa using hi)) (by simpa using hxl) (fun z hz => hw z (.inr hz))⟩
theorem lens_of_weightsA (hM : reachBytes ≤ M) : ∀ (ss : List Sh0) (q : TypeId) (k n : Nat) (cs : List Value) (xs : List (DataW H × List MemPlace)), fitsA P ss q = true →
    (∀ (i : Nat), i < ss.length → DataW.trod enc P w base spare held n q ((cs.drop ((k + i) * P.cellsOf q)).take (P.cellsOf q)) = xs[i]?) → xs.length = ss.length → (∀ n ∈ DataW.weightsAll P q (xs.map (·.1)), n ≤ reachBytes) → lensLeL M (xs.map (·.1))
  | [], q, k, n, cs, xs, hf, hx, hxl, hw => by
    cases xs with
    | nil => simp [lensLeL]
    | cons => simp at hxl
  | s :: ss, q, k, n, cs, xs, hf, hx, hxl, hw => by
    simp only [fitsA, Bool.and_eq_true, beq_iff_eq] at hf
    obtain ⟨⟨hc, hb⟩, hr⟩ := hf
    cases xs with
    | nil => simp at hxl
    | cons y ys =>
      have h0 := hx 0 (by simp)
      simp only [List.getElem?_cons_zero, Nat.add_zero] at h0
      simp only [List.map_cons, DataW.weightsAll, List.mem_append] at hw
      simp only [List.map_cons, lensLeL]
      exact ⟨lens_of_weights hM s q n _ y hb h0 (fun z hz => hw z (.inl hz)), lens_of_weightsA hM ss q (k + 1) n cs ys hr (fun i hi => by simpa [Nat.add_assoc, Nat.add_comm 1 i] using hx (i + 1) (by simpa using hi)) (by simpa using hxl) (fun z hz => hw z (.inr hz))⟩
end
end

mutual
theorem rep.gr {M : Nat} {a b : World} (hg : Gr a b) : ∀ {s : Sh0} {cs : List Value} {d : Dat}, rep M a s cs d → rep M b s cs d
  | .int, cs, .int z, h => by rw [rep] at h ⊢; exact h
  | .u8, cs, .int z, h => by rw [rep] at h ⊢; exact h
  | .bool, cs, .bool z, h => by rw [rep] at h ⊢; exact h
  | .str, cs, .str z, h => by rw [rep] at h ⊢; exact h
  | .st fs, cs, .st l, h => by rw [rep] at h ⊢; exact reps.gr hg h
  | .sl e, cs, .sl l, h => by
    rw [rep] at h ⊢
    rcases h with h | ⟨blk, off, cap, h1, h2, h3, h4, h5, h6, h7⟩
    · exact .inl h
    · refine .inr ⟨blk, off, cap, h1, h2, h3, h4, h5, Nat.lt_of_lt_of_le h6 hg.size, fun i hi => ?_⟩
      obtain ⟨ds, k1, k2, k3⟩ := h7 i hi
      exact ⟨ds, k1, fun j hj => hg.cell' (k2 j hj), rep.gr hg k3⟩
  | .int, cs, .bool _, h => by simp [rep] at h
  | .int, cs, .str _, h => by simp [rep] at h
  | .int, cs, .st _, h => by simp [rep] at h
  | .int, cs, .sl _, h => by simp [rep] at h
  | .u8, cs, .bool _, h => by simp [rep] at h
  | .u8, cs, .str _, h => by simp [rep] at h
  | .u8, cs, .st _, h => by simp [rep] at h
  | .u8, cs, .sl _, h => by simp [rep] at h
  | .bool, cs, .int _, h => by simp [rep] at h
  | .bool, cs, .str _, h => by simp [rep] at h
  | .bool, cs, .st _, h => by simp [rep] at h
  | .bool, cs, .sl _, h => by simp [rep] at h
  | .str, cs, .int _, h => by simp [rep] at h
  | .str, cs, .bool _, h => by simp [rep] at h
  | .str, cs, .st _, h => by simp [rep] at h
  | .str, cs, .sl _, h => by simp [rep] at h
  | .st _, cs, .int _, h => by simp [rep] at h
  | .st _, cs, .bool _, h => by simp [rep] at h
  | .st _, cs, .str _, h => by simp [rep] at h
  | .st _, cs, .sl _, h => by simp [rep] at h
  | .sl _, cs, .int _, h => by simp [rep] at h
  | .sl _, cs, .bool _, h => by simp [rep] at h
  | .sl _, cs, .str _, h => by simp [rep] at h
  | .sl _, cs, .st _, h => by simp [rep] at h
theorem reps.gr {M : Nat} {a b : World} (hg : Gr a b) : ∀ {ss : List Sh0} {cs : List Value} {l : List Dat}, reps M a ss cs l → reps M b ss cs l
  | [], cs, [], h => by rw [reps] at h ⊢; exact h
  | s :: ss, cs, d :: ds, h => by
    rw [reps] at h ⊢
    obtain ⟨x, y, h1, h2, h3⟩ := h
    exact ⟨x, y, h1, rep.gr hg h2, reps.gr hg h3⟩
  | [], cs, _ :: _, h => by simp [reps] at h
  | _ :: _, cs, [], h => by simp [reps] at h
end

section
variable {M : Nat} {w : World} {cs : List Value} {d : Dat}
theorem rep_int : rep M w .int cs d ↔ ∃ z, d = .int z ∧ cs = [.int .i64 z] ∧ -9223372036854775808 ≤ z ∧ z ≤ 9223372036854775807 := by cases d <;> simp [rep]
theorem rep_u8 : rep M w .u8 cs d ↔ ∃ z, d = .int z ∧ cs = [.int .u8 z] ∧ 0 ≤ z ∧ z ≤ 255 := by cases d <;> simp [rep]
theorem rep_bool : rep M w .bool cs d ↔ ∃ b, d = .bool b ∧ cs = [.bool b] := by cases d <;> simp [rep]
theorem rep_str : rep M w .str cs d ↔ ∃ s, d = .str s ∧ cs = [.string s] ∧ s.size ≤ M := by cases d <;> simp [rep]
theorem rep_st {fs : List Sh0} : rep M w (.st fs) cs d ↔ ∃ l, d = .st l ∧ reps M w fs cs l := by cases d <;> simp [rep]
theorem reps_nil {l : List Dat} : reps M w [] cs l ↔ l = [] ∧ cs = [] := by cases l <;> simp [reps]
theorem reps_cons {s : Sh0} {ss : List Sh0} {l : List Dat} : reps M w (s :: ss) cs l ↔ ∃ a b d ds, cs = a ++ b ∧ l = d :: ds ∧ rep M w s a d ∧ reps M w ss b ds := by
  cases l with
  | nil => simp [reps]
  | cons x r =>
    rw [reps]
    constructor
    · rintro ⟨a, b, h1, h2, h3⟩; exact ⟨a, b, x, r, h1, rfl, h2, h3⟩
    · rintro ⟨a, b, d, ds, h1, h2, h3, h4⟩
      obtain ⟨rfl, rfl⟩ := List.cons.inj h2
      exact ⟨a, b, h1, h3, h4⟩
end

/-- an argument: a struct by value is its cells; all else is one cell -/
def repV (M : Nat) (w : World) (s : Sh0) (v : Value) (d : Dat) : Prop :=
  match s with
  | .st fs => ∃ cs : List Value, v = .agg cs.toArray ∧ rep M w (.st fs) cs d
  | s => rep M w s [v] d
theorem okWide_plain {P : Program} {w : World} {r : Reach} {b : Nat} {t : TypeId} {v : Value} (hv : Value.okWide P w r b t v)
    (h : (∃ k, P.underlying t = some (.int k)) ∨ P.underlying t = some .bool ∨ P.underlying t = some .string ∨ ∃ q, P.underlying t = some (.slice q)) : v.cells.toList = [v] := by
  cases v <;> first | rfl | skip
  rename_i cs
  rcases h with ⟨k, hu⟩ | hu | hu | ⟨q, hu⟩ <;> simp [Value.okWide, hu, Cell.okWide, Cell.ok] at hv
theorem open_arg {H : Type} {enc : TypeId × Value → H} {P : Program} {w : World} {base : Nat} {spare : Nat → Bool} {held : Bool} {M : Nat} {r : Reach} {b : Nat} (s : Sh0) {t : TypeId} {v : Value} {d : DataW H} {p : List MemPlace}
    (hf : fitsB P s t = true) (hv : Value.okWide P w r b t v) (h : DataW.Trod enc P w base spare held t v d p) (hM : lensLe M d) : ∃ D, repV M w s v D := by
  obtain ⟨fuel, hfu⟩ := h
  obtain ⟨D, hD⟩ := open_rep s t fuel _ (d, p) hf hfu hM
  refine ⟨D, ?_⟩
  cases s with
  | st fs =>
    simp only [fitsB] at hf
    split at hf
    · rename_i F hu
      simp only [Value.okWide, hu] at hv
      obtain ⟨cs, rfl, _⟩ := hv
      exact ⟨cs.toList, by simp, by simpa [Value.cells] using hD⟩
    · rename_i n q hu
      simp only [Value.okWide, hu] at hv
      obtain ⟨cs, rfl, _⟩ := hv
      exact ⟨cs.toList, by simp, by simpa [Value.cells] using hD⟩
    · simp at hf
  | int =>
    simp only [fitsB] at hf
    split at hf <;> simp at hf
    rename_i hu
    rw [okWide_plain hv (.inl ⟨_, hu⟩)] at hD; exact hD
  | u8 =>
    simp only [fitsB] at hf
    split at hf <;> simp at hf
    rename_i hu
    rw [okWide_plain hv (.inl ⟨_, hu⟩)] at hD; exact hD
  | bool =>
    simp only [fitsB] at hf
    split at hf <;> simp at hf
    rename_i hu
    rw [okWide_plain hv (.inr (.inl hu))] at hD; exact hD
  | str =>
    simp only [fitsB] at hf
    split at hf <;> simp at hf
    rename_i hu
    rw [okWide_plain hv (.inr (.inr (.inl hu)))] at hD; exact hD
  | sl e =>
    simp only [fitsB] at hf
    split at hf
    · rename_i q hu
      rw [okWide_plain hv (.inr (.inr (.inr ⟨_, hu⟩)))] at hD; exact hD
    · simp at hf

/-- a slice of the call's or of an argument's that reads as this list; R: what an element's cells say -/
def RdR {α : Type} (R : World → List Value → α → Prop) (k : Nat) (w : World) (v : Value) (l : List α) : Prop :=
  (l = [] ∧ ∃ q c, v = .slice q 0 c ∧ c ≤ maxLen ∧ (q = none → c = 0)) ∨
    ∃ blk off cap, v = .slice (some ⟨blk, off, none⟩) l.length cap ∧ 0 < l.length ∧ l.length ≤ cap ∧ cap ≤ maxLen ∧ blk < w.heap.size ∧
      ∀ (i : Nat) (h : i < l.length), ∃ ds : List Value, ds.length = k ∧ (∀ (j : Nat) (hj : j < ds.length), w.cell? ⟨blk, off + (i * k + j), none⟩ = some ds[j]) ∧ R w ds l[i]
theorem RdR.gr {α : Type} {R : World → List Value → α → Prop} (hR : ∀ a b ds x, Gr a b → R a ds x → R b ds x) {k : Nat} {a b : World} (hg : Gr a b) {v : Value} {l : List α} (h : RdR R k a v l) : RdR R k b v l := by
  rcases h with h | ⟨blk, off, cap, h1, h2, h4, h5, h6, h7⟩
  · exact .inl h
  · refine .inr ⟨blk, off, cap, h1, h2, h4, h5, Nat.lt_of_lt_of_le h6 hg.size, fun i hi => ?_⟩
    obtain ⟨ds, k1, k2, k3⟩ := h7 i hi
    exact ⟨ds, k1, fun j hj => hg.cell' (k2 j hj), hR a b ds _ hg k3⟩
theorem RdR.of_rep {α : Type} {R : World → List Value → α → Prop} {M : Nat} {w : World} {e : Sh0} {Q : α → Prop} (hc : ∀ ds d, rep M w e ds d → ∃ a, R w ds a ∧ Q a) {v : Value} {d : Dat} (h : rep M w (.sl e) [v] d) :
    ∃ l, RdR R e.size w v l ∧ l.length ≤ M ∧ ∀ a ∈ l, Q a := by
  cases d with
  | sl l =>
    rw [rep] at h
    rcases h with ⟨rfl, q, c, h1, h2⟩ | ⟨blk, off, cap, h1, h2, h3, h4, h5, h6, h7⟩
    · exact ⟨[], .inl ⟨rfl, q, c, by simpa using h1, h2⟩, by simp, by simp⟩
    · have hall : ∀ i, i < l.length → ∃ a : α, (∃ ds : List Value, ds.length = e.size ∧ (∀ (j : Nat) (hj : j < ds.length), w.cell? ⟨blk, off + (i * e.size + j), none⟩ = some ds[j]) ∧ R w ds a) ∧ Q a := by
        intro i hi
        obtain ⟨ds, k1, k2, k3⟩ := h7 i hi
        obtain ⟨a, ha, hq⟩ := hc ds _ k3
        exact ⟨a, ⟨ds, k1, k2, ha⟩, hq⟩
      obtain ⟨L, hL, hq⟩ := list_of_all hall
      refine ⟨L, .inr ⟨blk, off, cap, by rw [hL]; simpa using h1, by omega, by omega, h5, h6, fun i hi => (hq i hi).1⟩, by omega, fun a ha => ?_⟩
      obtain ⟨i, hi, rfl⟩ := List.mem_iff_getElem.1 ha
      exact (hq i hi).2
  | int => simp [rep] at h
  | bool => simp [rep] at h
  | str => simp [rep] at h
  | st => simp [rep] at h
end Go.Proofs.YtocijpeminghoaaGreatDoor
