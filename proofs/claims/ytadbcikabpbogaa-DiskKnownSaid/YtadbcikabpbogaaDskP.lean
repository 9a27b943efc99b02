/- Plain words of layer 7: disks. No program in sight. -/
import Derived.Test.YtadbcikabpbogaaByd
import Derived.Maps.OwnSet
namespace Go.Proofs.Ytadbcikabpbogaa
open Go
set_option linter.unusedVariables false
set_option linter.unusedSimpArgs false

structure DF where
  nm : List UInt8
  b : List UInt8
  mark : Nat
structure DS where
  fs : List DF
  dead : Bool
  left : Int
  keep : List Int

/-! lists in the order of their names -/
section
variable {α : Type} (key : α → List UInt8)
def insK (f : α) : List α → List α
  | [] => [f]
  | g :: r => if bytesBefore (key f) (key g) = true then f :: g :: r else g :: insK f r
def delK (nm : List UInt8) (fs : List α) : List α := fs.filter fun g => !(key g == nm)
def putK (f : α) (fs : List α) : List α := insK key f (delK key (key f) fs)
def getK (nm : List UInt8) (fs : List α) : Option α := fs.find? fun g => key g == nm
def Rise (fs : List α) : Prop := fs.Pairwise fun f g => bytesBefore (key f) (key g) = true
end
abbrev insF := insK DF.nm
abbrev delF := delK DF.nm
abbrev putF := putK DF.nm
abbrev getF := getK DF.nm
def allF (fs : List DF) : Nat := (fs.map fun f => f.b.length).sum
def nameOk (s : List UInt8) : Bool := !s.isEmpty && decide (s.length ≤ 40)
def crashOne (keep : List Int) (i : Nat) (f : DF) : DF :=
  let k := match keep[i]? with | some x => (x % ((f.b.length : Int) - f.mark + 1)).toNat | none => 0
  ⟨f.nm, f.b.take (f.mark + k), f.mark + k⟩
def crashF (keep : List Int) : Nat → List DF → List DF
  | _, [] => []
  | i, f :: r => crashOne keep i f :: crashF keep (i + 1) r
def DS.crash (st : DS) (keep : List Int) : DS := if st.dead = true then st else ⟨crashF keep 0 st.fs, true, -1, st.keep⟩
def DS.work (st : DS) (g : List DF → List DF) : Int × DS :=
  if st.left = 0 then (71, st.crash st.keep) else (0, ⟨g st.fs, st.dead, if 0 < st.left then st.left - 1 else st.left, st.keep⟩)
def DS.append (st : DS) (nm x : List UInt8) : Int × DS :=
  if st.dead = true then (71, st) else if nameOk nm = false then (70, st)
  else if (getF nm st.fs = none ∧ 20 ≤ st.fs.length) ∨ 4194304 < allF st.fs + x.length then (7, st)
  else st.work fun fs => match getF nm fs with | some f => putF ⟨nm, f.b ++ x, f.mark⟩ fs | none => putF ⟨nm, x, 0⟩ fs
def DS.sync (st : DS) (nm : List UInt8) : Int × DS :=
  if st.dead = true then (71, st) else match getF nm st.fs with
  | none => (70, st)
  | some f => st.work fun fs => putF ⟨nm, f.b, f.b.length⟩ fs
def DS.cut (st : DS) (nm : List UInt8) (n : Int) : Int × DS :=
  if st.dead = true then (71, st) else match getF nm st.fs with
  | none => (70, st)
  | some f => if n < 0 ∨ (f.b.length : Int) < n then (9, st) else st.work fun fs => putF ⟨nm, f.b.take n.toNat, min f.mark n.toNat⟩ fs
def DS.rename (st : DS) (src dst : List UInt8) : Int × DS :=
  if st.dead = true then (71, st) else match getF src st.fs with
  | none => (70, st)
  | some f => if nameOk dst = false then (70, st) else st.work fun fs => putF ⟨dst, f.b, f.mark⟩ (delF src fs)
def DS.remove (st : DS) (nm : List UInt8) : Int × DS :=
  if st.dead = true then (71, st) else match getF nm st.fs with
  | none => (70, st)
  | some f => st.work fun fs => delF nm fs
def DS.read (st : DS) (nm : List UInt8) : List UInt8 × Int :=
  if st.dead = true then ([], 71) else match getF nm st.fs with
  | none => ([], 70)
  | some f => (f.b, 0)
def DS.fail (st : DS) (n : Int) (keep : List Int) : DS := if st.dead = true then st else { st with left := max n (-1), keep := keep }
def DS.boot (st : DS) : DS := { st with dead := false, left := -1 }
def DS.names (st : DS) : List (List UInt8) := if st.dead = true then [] else st.fs.map (·.nm)
def turnB (c : UInt8) (bit : Nat) : UInt8 := c ^^^ (1 <<< UInt8.ofNat bit)
def DS.turn (st : DS) (nm : List UInt8) (at_ bit : Int) : Int × DS :=
  if st.dead = true then (71, st) else match getF nm st.fs with
  | none => (70, st)
  | some f => if at_ < 0 ∨ (f.b.length : Int) ≤ at_ ∨ bit < 0 ∨ 7 < bit then (9, st)
    else (0, { st with fs := putF ⟨nm, f.b.set at_.toNat (turnB (f.b.getD at_.toNat 0) bit.toNat), f.mark⟩ st.fs })

/-! rising names -/
theorem bb_irrefl : ∀ s : List UInt8, bytesBefore s s = false
  | [] => rfl
  | a :: r => by simp [bytesBefore, bb_irrefl r]
theorem bb_trans : ∀ {a b c : List UInt8}, bytesBefore a b = true → bytesBefore b c = true → bytesBefore a c = true
  | [], [], _, h, _ => by simp [bytesBefore] at h
  | [], _ :: _, [], _, h => by simp [bytesBefore] at h
  | [], _ :: _, _ :: _, _, _ => rfl
  | _ :: _, [], _, h, _ => by simp [bytesBefore] at h
  | _ :: _, _ :: _, [], _, h => by simp [bytesBefore] at h
  | a :: x, b :: y, c :: z, h1, h2 => by
    simp only [bytesBefore, Bool.or_eq_true, Bool.and_eq_true, decide_eq_true_eq, beq_iff_eq] at h1 h2 ⊢
    rcases h1 with h1 | ⟨rfl, h1⟩
    · rcases h2 with h2 | ⟨rfl, h2⟩
      · exact .inl (UInt8.lt_trans h1 h2)
      · exact .inl h1
    · rcases h2 with h2 | ⟨rfl, h2⟩
      · exact .inl h2
      · exact .inr ⟨rfl, bb_trans h1 h2⟩
theorem bb_total : ∀ a b : List UInt8, bytesBefore a b = false → bytesBefore b a = false → a = b
  | [], [], _, _ => rfl
  | [], _ :: _, h, _ => by simp [bytesBefore] at h
  | _ :: _, [], _, h => by simp [bytesBefore] at h
  | a :: x, b :: y, h1, h2 => by
    simp only [bytesBefore, Bool.or_eq_false_iff, Bool.and_eq_false_iff, decide_eq_false_iff_not, beq_eq_false_iff_ne] at h1 h2
    have hab : a = b := by
      rcases Nat.lt_trichotomy a.toNat b.toNat with h | h | h
      · exact absurd (UInt8.lt_iff_toNat_lt.2 h) h1.1
      · exact UInt8.toNat_inj.1 h
      · exact absurd (UInt8.lt_iff_toNat_lt.2 h) h2.1
    subst hab
    have e1 : bytesBefore x y = false := by rcases h1.2 with h | h; exact absurd rfl h; exact h
    have e2 : bytesBefore y x = false := by rcases h2.2 with h | h; exact absurd rfl h; exact h
    rw [bb_total x y e1 e2]
section
variable {α : Type} {key : α → List UInt8}
theorem Rise.del {fs : List α} (h : Rise key fs) (nm : List UInt8) : Rise key (delK key nm fs) := List.Pairwise.filter _ h
theorem mem_insK {f g : α} : ∀ {fs : List α}, g ∈ insK key f fs ↔ g = f ∨ g ∈ fs
  | [] => by simp [insK]
  | x :: r => by
    unfold insK
    split
    · simp
    · rw [List.mem_cons, mem_insK (fs := r), List.mem_cons]
      constructor
      · rintro (h | h | h)
        · exact .inr (.inl h)
        · exact .inl h
        · exact .inr (.inr h)
      · rintro (h | h | h)
        · exact .inr (.inl h)
        · exact .inl h
        · exact .inr (.inr h)
theorem Rise.ins {f : α} : ∀ {fs : List α}, Rise key fs → (∀ g ∈ fs, key g ≠ key f) → Rise key (insK key f fs)
  | [], _, _ => by simp [insK, Rise]
  | x :: r, h, hn => by
    have hc := List.pairwise_cons.1 h
    unfold insK
    split
    · rename_i hb
      refine List.pairwise_cons.2 ⟨fun g hg => ?_, h⟩
      rcases List.mem_cons.1 hg with rfl | hg
      · exact hb
      · exact bb_trans hb (hc.1 g hg)
    · rename_i hb
      have hb' : bytesBefore (key f) (key x) = false := by simpa using hb
      have hx : bytesBefore (key x) (key f) = true := by
        cases hxf : bytesBefore (key x) (key f) with
        | true => rfl
        | false => exact absurd (bb_total _ _ hxf hb') (hn x (by simp))
      refine List.pairwise_cons.2 ⟨fun g hg => ?_, Rise.ins hc.2 (fun g hg => hn g (by simp [hg]))⟩
      rcases mem_insK.1 hg with rfl | hg
      · exact hx
      · exact hc.1 g hg
theorem mem_delK {nm : List UInt8} {fs : List α} {g : α} : g ∈ delK key nm fs ↔ g ∈ fs ∧ key g ≠ nm := by
  simp [delK]
theorem Rise.put {fs : List α} (h : Rise key fs) (f : α) : Rise key (putK key f fs) := (h.del (key f)).ins (fun g hg => (mem_delK.1 hg).2)
theorem mem_putK {f g : α} {fs : List α} : g ∈ putK key f fs ↔ g = f ∨ (g ∈ fs ∧ key g ≠ key f) := by
  unfold putK
  rw [mem_insK, mem_delK]
theorem length_insK (f : α) : ∀ fs : List α, (insK key f fs).length = fs.length + 1
  | [] => rfl
  | x :: r => by
    unfold insK
    split
    · simp
    · simp [length_insK f r]
theorem getK_some {nm : List UInt8} {fs : List α} {f : α} (h : getK key nm fs = some f) : f ∈ fs ∧ key f = nm := by
  unfold getK at h
  have h1 := List.find?_some h
  exact ⟨List.mem_of_find?_eq_some h, by simpa using h1⟩
theorem getK_none {nm : List UInt8} {fs : List α} (h : getK key nm fs = none) : ∀ g ∈ fs, key g ≠ nm := by
  unfold getK at h
  intro g hg e
  have := List.find?_eq_none.1 h g hg
  simp [e] at this
theorem getK_of_mem {fs : List α} (hr : Rise key fs) {f : α} (hf : f ∈ fs) : getK key (key f) fs = some f := by
  cases h : getK key (key f) fs with
  | none => exact absurd rfl (getK_none h f hf)
  | some g =>
    obtain ⟨hg, hn⟩ := getK_some h
    congr 1
    have hp := hr
    unfold Rise at hp
    rcases List.mem_iff_getElem.1 hf with ⟨i, hi, rfl⟩
    rcases List.mem_iff_getElem.1 hg with ⟨j, hj, rfl⟩
    rcases Nat.lt_trichotomy i j with h | h | h
    · have := List.pairwise_iff_getElem.1 hp i j hi hj h
      rw [hn, bb_irrefl] at this; cases this
    · subst h; rfl
    · have := List.pairwise_iff_getElem.1 hp j i hj hi h
      rw [hn, bb_irrefl] at this; cases this
theorem getK_iff {fs : List α} (hr : Rise key fs) {nm : List UInt8} {f : α} : getK key nm fs = some f ↔ f ∈ fs ∧ key f = nm :=
  ⟨getK_some, fun ⟨h1, h2⟩ => by rw [← h2]; exact getK_of_mem hr h1⟩
theorem getK_put {fs : List α} (hr : Rise key fs) (f : α) (nm : List UInt8) : getK key nm (putK key f fs) = if nm = key f then some f else getK key nm fs := by
  by_cases h : nm = key f
  · rw [if_pos h]
    exact (getK_iff (hr.put f)).2 ⟨mem_putK.2 (.inl rfl), h.symm⟩
  · rw [if_neg h]
    cases hg : getK key nm fs with
    | some g =>
      obtain ⟨h1, h2⟩ := getK_some hg
      exact (getK_iff (hr.put f)).2 ⟨mem_putK.2 (.inr ⟨h1, by rw [h2]; exact h⟩), h2⟩
    | none =>
      cases hg2 : getK key nm (putK key f fs) with
      | none => rfl
      | some g =>
        obtain ⟨h1, h2⟩ := getK_some hg2
        rcases mem_putK.1 h1 with rfl | ⟨h3, _⟩
        · exact absurd h2.symm h
        · exact absurd h2 (getK_none hg g h3)
theorem getK_del {fs : List α} (hr : Rise key fs) (x nm : List UInt8) : getK key nm (delK key x fs) = if nm = x then none else getK key nm fs := by
  by_cases h : nm = x
  · rw [if_pos h]
    cases hg : getK key nm (delK key x fs) with
    | none => rfl
    | some g =>
      obtain ⟨h1, h2⟩ := getK_some hg
      exact absurd (h2.trans h) (mem_delK.1 h1).2
  · rw [if_neg h]
    cases hg : getK key nm fs with
    | some g =>
      obtain ⟨h1, h2⟩ := getK_some hg
      exact (getK_iff (hr.del x)).2 ⟨mem_delK.2 ⟨h1, by rw [h2]; exact h⟩, h2⟩
    | none =>
      cases hg2 : getK key nm (delK key x fs) with
      | none => rfl
      | some g =>
        obtain ⟨h1, h2⟩ := getK_some hg2
        exact absurd h2 (getK_none hg g (mem_delK.1 h1).1)
theorem insK_map {β : Type} (g : β → α) (x : β) : ∀ l : List β, (insK (fun y => key (g y)) x l).map g = insK key (g x) (l.map g)
  | [] => rfl
  | y :: r => by
    simp only [insK, List.map_cons]
    split
    · simp
    · simp [insK_map g x r]
theorem delK_map {β : Type} (g : β → α) (nm : List UInt8) (l : List β) : (delK (fun y => key (g y)) nm l).map g = delK key nm (l.map g) := by
  simp only [delK, List.filter_map]
  rfl
theorem putK_map {β : Type} (g : β → α) (x : β) (l : List β) : (putK (fun y => key (g y)) x l).map g = putK key (g x) (l.map g) := by
  unfold putK
  rw [insK_map, delK_map]
theorem getK_map {β : Type} (g : β → α) (nm : List UInt8) (l : List β) : (getK (fun y => key (g y)) nm l).map g = getK key nm (l.map g) := by
  simp only [getK, List.find?_map]
  rfl
end
theorem allF_del (nm : List UInt8) : ∀ fs : List DF, allF (delF nm fs) ≤ allF fs
  | [] => by simp [delK, allF]
  | f :: r => by
    have ih := allF_del nm r
    simp only [delK, List.filter_cons] at ih ⊢
    split
    · simp only [allF, List.map_cons, List.sum_cons] at ih ⊢; omega
    · simp only [allF, List.map_cons, List.sum_cons] at ih ⊢; omega
theorem allF_ins (f : DF) : ∀ fs : List DF, allF (insF f fs) = f.b.length + allF fs
  | [] => by simp [insK, allF]
  | g :: r => by
    have ih : allF (insK DF.nm f r) = f.b.length + allF r := allF_ins f r
    show allF (insK DF.nm f (g :: r)) = _
    simp only [insK]
    split
    · simp [allF]
    · simp only [allF, List.map_cons, List.sum_cons] at ih ⊢; omega
theorem delK_id {α : Type} {key : α → List UInt8} {nm : List UInt8} {fs : List α} (h : ∀ g ∈ fs, key g ≠ nm) : delK key nm fs = fs := by
  unfold delK
  rw [List.filter_eq_self]
  intro g hg
  simpa using h g hg
/-- the sum without a file, and with it -/
theorem allF_get {fs : List DF} (hr : Rise DF.nm fs) : ∀ {f : DF}, f ∈ fs → allF fs = f.b.length + allF (delF f.nm fs) := by
  induction fs with
  | nil => intro f hf; simp at hf
  | cons g r ih =>
    intro f hf
    have hc := List.pairwise_cons.1 hr
    rcases List.mem_cons.1 hf with rfl | hf
    · have : delF f.nm (f :: r) = r := by
        show delK DF.nm f.nm (f :: r) = r
        unfold delK
        rw [List.filter_cons, if_neg (by simp)]
        exact delK_id (fun x hx e => by
          have := hc.1 x hx
          rw [e, bb_irrefl] at this; cases this)
      rw [this]
      simp [allF]
    · have hne : g.nm ≠ f.nm := fun e => by
        have := hc.1 f hf
        rw [e, bb_irrefl] at this; cases this
      have h2 := ih hc.2 hf
      have : delF f.nm (g :: r) = g :: delF f.nm r := by
        show delK DF.nm f.nm (g :: r) = g :: delK DF.nm f.nm r
        unfold delK
        rw [List.filter_cons, if_pos (by simpa using hne)]
      rw [this]
      simp only [allF, List.map_cons, List.sum_cons] at h2 ⊢
      omega
theorem len_get {fs : List DF} (hr : Rise DF.nm fs) : ∀ {f : DF}, f ∈ fs → fs.length = 1 + (delF f.nm fs).length := by
  induction fs with
  | nil => intro f hf; simp at hf
  | cons g r ih =>
    intro f hf
    have hc := List.pairwise_cons.1 hr
    rcases List.mem_cons.1 hf with rfl | hf
    · have : delF f.nm (f :: r) = r := by
        show delK DF.nm f.nm (f :: r) = r
        unfold delK
        rw [List.filter_cons, if_neg (by simp)]
        exact delK_id (fun x hx e => by
          have := hc.1 x hx
          rw [e, bb_irrefl] at this; cases this)
      rw [this]
      simp; omega
    · have hne : g.nm ≠ f.nm := fun e => by
        have := hc.1 f hf
        rw [e, bb_irrefl] at this; cases this
      have h2 := ih hc.2 hf
      have : delF f.nm (g :: r) = g :: delF f.nm r := by
        show delK DF.nm f.nm (g :: r) = g :: delK DF.nm f.nm r
        unfold delK
        rw [List.filter_cons, if_pos (by simpa using hne)]
      rw [this]
      simp only [List.length_cons]
      omega
theorem putF_len {fs : List DF} (hr : Rise DF.nm fs) {f : DF} (x : DF) (hn : x.nm = f.nm) (hf : f ∈ fs) : (putF x fs).length = fs.length := by
  show (insF x (delF x.nm fs)).length = _
  rw [length_insK, hn, len_get hr hf]; omega
theorem putF_all {fs : List DF} (hr : Rise DF.nm fs) {f : DF} (x : DF) (hn : x.nm = f.nm) (hf : f ∈ fs) : allF (putF x fs) + f.b.length = allF fs + x.b.length := by
  show allF (insF x (delF x.nm fs)) + _ = _
  rw [allF_ins, hn, allF_get hr hf]; omega
end Go.Proofs.Ytadbcikabpbogaa
