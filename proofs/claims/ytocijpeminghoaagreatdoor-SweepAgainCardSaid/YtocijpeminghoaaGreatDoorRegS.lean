/- Regions that draw their order, whose reads are taken first; a tail that waits for all reads. (The general part of XRegT.) -/
import Derived.Test.YtocijpeminghoaaGreatDoorBase
import Derived.Deep.RegionHeld
import Derived.StillTail
namespace Go.Proofs.YtocijpeminghoaaGreatDoor
open Go.RowKit
set_option linter.unusedVariables false
set_option linter.unusedSimpArgs false

section
variable {P : Program} {ops : Array Oper} {Q : Exit → Act → World → Prop} {md : Region.Mode} {S : World → Prop} {T : List Nat}

def wpAnyT (P : Program) (md : Region.Mode) (ops : Array Oper) (Q : Exit → Act → World → Prop) (S : World → Prop) (T : List Nat) : Nat → Array Bool → Act → World → Prop
  | 0, listed, a, w => Region.ready md ops listed = [] ∧ Q .normal a w
  | fuel + 1, listed, a, w =>
    (Region.ready md ops listed = [] → Q .normal a w) ∧
    ∀ i ∈ Region.ready md ops listed, wpOp P ops Q i (fun a' w' => (i ∉ T → S w') ∧ wpAnyT P md ops Q S T fuel (listed.setIfInBounds i true) a' w') a w
theorem wpAny_of_T : ∀ (fuel : Nat) (listed : Array Bool) (a : Act) (w : World), wpAnyT P md ops Q S T fuel listed a w → wpAny P md ops Q fuel listed a w
  | 0, _, _, _, h => h
  | fuel + 1, _, _, _, h => ⟨h.1, fun i hi => wpOp_mono (fun a' w' h' => wpAny_of_T fuel _ a' w' h'.2) (h.2 i hi)⟩
theorem wpAnyT_weaken {S' : World → Prop} (hS : ∀ w, S' w → S w) : ∀ (fuel : Nat) (listed : Array Bool) (a : Act) (w : World),
    wpAnyT P md ops Q S' T fuel listed a w → wpAnyT P md ops Q S T fuel listed a w
  | 0, _, _, _, h => h
  | fuel + 1, _, _, _, h => ⟨h.1, fun i hi => wpOp_mono (fun a' w' h' => ⟨fun hT => hS w' (h'.1 hT), wpAnyT_weaken hS fuel _ a' w' h'.2⟩) (h.2 i hi)⟩

/-- all that may come up while number i has not -/
def fillB (md : Region.Mode) (ops : Array Oper) (i : Nat) : Nat → Array Bool → Array Bool
  | 0, l => l
  | f + 1, l => fillB md ops i f ((Region.ready md ops l).foldl (fun l j => if j = i then l else l.setIfInBounds j true) l)
/-- those of T that are still to come wait for number i -/
def lateB (md : Region.Mode) (ops : Array Oper) (T : List Nat) (listed M : Array Bool) (i : Nat) : Bool :=
  decide (M.size = ops.size) && (Region.ready md ops M).all (fun j => decide (j = i)) && (List.range ops.size).all (fun k => !listed.getD k false || M.getD k false) && decide (listed.size = ops.size) && T.all (fun j => !M.getD j true || listed.getD j true)

theorem late_not {M : Array Bool} {i j : Nat} (hM : M.size = ops.size) (hr : ∀ j ∈ Region.ready md ops M, j = i) {listed : Array Bool} (h1 : ∀ k, listed.getD k false = true → M.getD k false = true)
    (hj : j ∈ Region.ready md ops listed) (hji : j ≠ i) : M.getD j true = true ∧ M.getD j false = true := by
  obtain ⟨hjun, oj, hoj, hall⟩ := mem_ready.1 hj
  have hlt : j < M.size := by rw [hM]; exact (Array.getElem?_eq_some_iff.1 hoj).1
  cases hm : M.getD j true with
  | true =>
    refine ⟨rfl, ?_⟩
    simp only [Array.getD, hlt, dif_pos] at hm ⊢
    exact hm
  | false => exact absurd (hr j (mem_ready.2 ⟨hm, oj, hoj, fun e he hb => h1 _ (hall e he hb)⟩)) hji

theorem wpAnyT_first {i : Nat} {oi : Oper} {v : Value} (hi : ops[i]? = some oi) (hsel : ∀ (j : Nat) (o : Oper) cs b, ops[j]? = some o → o.op ≠ .select cs b)
    (hQ : ∀ c a w, Q (.panic c) (a.put oi.dst v) w → Q (.panic c) a w) {M : Array Bool} (hM : M.size = ops.size) (hMr : ∀ j ∈ Region.ready md ops M, j = i) :
    ∀ (fuel : Nat) (listed : Array Bool) (a : Act) (w : World),
      (∀ k, listed.getD k false = true → M.getD k false = true) → (∀ j ∈ T, M.getD j true = true → listed.getD j true = true) →
      (∀ j oj, ops[j]? = some oj → j ≠ i → listed.getD j true = false → (∀ e ∈ oj.after, Region.binds md e = true → e.on ≠ i) → oi.apart ops oj = true) →
      i ∈ Region.ready md ops listed → YieldsIf P ops S oi v a → S w →
      wpAnyT P md ops Q S T fuel (listed.setIfInBounds i true) (a.put oi.dst v) w → wpAnyT P md ops Q S T (fuel + 1) listed a w := by
  intro fuel
  induction fuel with
  | zero =>
    intro listed a w _ _ _ hr hy hS H
    refine ⟨fun h => (by rw [h] at hr; cases hr), fun j hj => ?_⟩
    by_cases hji : j = i
    · subst hji; exact hy.wpOp hi hS ⟨fun _ => hS, H⟩
    · have := ready_mono hj hji
      rw [H.1] at this
      cases this
  | succ fuel ih =>
    intro listed a w hI1 hI2 hfree hr hy hS H
    refine ⟨fun h => (by rw [h] at hr; cases hr), fun j hj => ?_⟩
    by_cases hji : j = i
    · subst hji; exact hy.wpOp hi hS ⟨fun _ => hS, H⟩
    · have h1 := H.2 j (ready_mono hj hji)
      obtain ⟨hm1, hm2⟩ := late_not hM hMr hI1 hj hji
      obtain ⟨hjun, oj, hoj, hall⟩ := mem_ready.1 hj
      have hjT : j ∉ T := fun hT => by
        have := hI2 j hT hm1
        rw [hjun] at this
        cases this
      have hnot : ∀ e ∈ oj.after, Region.binds md e = true → e.on ≠ i := fun e he hb heq => by
        have h1 := hall e he hb
        have h0 := (mem_ready.1 hr).1
        rw [heq] at h1
        rcases Nat.lt_or_ge i listed.size with h' | h'
        · simp [h'] at h0 h1; rw [h0] at h1; cases h1
        · simp [Array.getElem?_eq_none h'] at h1
      have h2 := wpOp_putIf hoj (hfree j oj hoj hji hjun hnot) (fun cs b => hsel i oi cs b hi) (fun cs b => hsel j oj cs b hoj) hQ hy h1
      have hfree' : ∀ k ok, ops[k]? = some ok → k ≠ i → (listed.setIfInBounds j true).getD k true = false →
          (∀ e ∈ ok.after, Region.binds md e = true → e.on ≠ i) → oi.apart ops ok = true := fun k ok hk hki hun hno => by
        refine hfree k ok hk hki ?_ hno
        by_cases hjk : j = k
        · subst hjk; exact hjun
        · rw [getD_set_ne true hjk] at hun; exact hun
      refine wpOp_mono (fun a' w' h3 => ⟨h3.2.1, ih (listed.setIfInBounds j true) a' w' ?_ ?_ hfree' (ready_mono hr (Ne.symm hji)) h3.1 (h3.2.1 hjT) ?_⟩) h2
      · intro k hk
        by_cases hjk : j = k
        · subst hjk; exact hm2
        · rw [getD_set_ne false hjk] at hk; exact hI1 k hk
      · intro k hk hmk
        by_cases hjk : j = k
        · subst hjk
          have hlt : j < (listed.setIfInBounds j true).size ∨ ¬ j < (listed.setIfInBounds j true).size := by omega
          rcases hlt with h | h
          · simp only [Array.getD, h, dif_pos]; simp
          · simp only [Array.getD, h, dif_neg]; simp
        · rw [getD_set_ne true hjk]; exact hI2 k hk hmk
      · rw [Array.setIfInBounds_comm _ _ hji]
        exact h3.2.2

/-- what yields in whatever world may be taken first, also out of the tail -/
theorem wpAnyT_yield0 {i : Nat} {oi : Oper} {v : Value} (hi : ops[i]? = some oi) (hiT : i ∈ T) (hsel : ∀ (j : Nat) (o : Oper) cs b, ops[j]? = some o → o.op ≠ .select cs b)
    (hQ : ∀ c a w, Q (.panic c) (a.put oi.dst v) w → Q (.panic c) a w) :
    ∀ (fuel : Nat) (listed : Array Bool) (a : Act) (w : World),
      (∀ j oj, ops[j]? = some oj → j ≠ i → listed.getD j true = false → (∀ e ∈ oj.after, Region.binds md e = true → e.on ≠ i) → oi.apart ops oj = true) →
      i ∈ Region.ready md ops listed → YieldsIf P ops (fun _ => True) oi v a →
      wpAnyT P md ops Q S T fuel (listed.setIfInBounds i true) (a.put oi.dst v) w → wpAnyT P md ops Q S T (fuel + 1) listed a w := by
  intro fuel
  induction fuel with
  | zero =>
    intro listed a w _ hr hy H
    refine ⟨fun h => (by rw [h] at hr; cases hr), fun j hj => ?_⟩
    by_cases hji : j = i
    · subst hji; exact hy.wpOp hi trivial ⟨fun h => absurd hiT h, H⟩
    · have := ready_mono hj hji
      rw [H.1] at this
      cases this
  | succ fuel ih =>
    intro listed a w hfree hr hy H
    refine ⟨fun h => (by rw [h] at hr; cases hr), fun j hj => ?_⟩
    by_cases hji : j = i
    · subst hji; exact hy.wpOp hi trivial ⟨fun h => absurd hiT h, H⟩
    · have h1 := H.2 j (ready_mono hj hji)
      obtain ⟨hjun, oj, hoj, hall⟩ := mem_ready.1 hj
      have hnot : ∀ e ∈ oj.after, Region.binds md e = true → e.on ≠ i := fun e he hb heq => by
        have h1 := hall e he hb
        have h0 := (mem_ready.1 hr).1
        rw [heq] at h1
        rcases Nat.lt_or_ge i listed.size with h' | h'
        · simp [h'] at h0 h1; rw [h0] at h1; cases h1
        · simp [Array.getElem?_eq_none h'] at h1
      have h2 := wpOp_putIf hoj (hfree j oj hoj hji hjun hnot) (fun cs b => hsel i oi cs b hi) (fun cs b => hsel j oj cs b hoj) hQ hy h1
      have hfree' : ∀ k ok, ops[k]? = some ok → k ≠ i → (listed.setIfInBounds j true).getD k true = false →
          (∀ e ∈ ok.after, Region.binds md e = true → e.on ≠ i) → oi.apart ops ok = true := fun k ok hk hki hun hno => by
        refine hfree k ok hk hki ?_ hno
        by_cases hjk : j = k
        · subst hjk; exact hjun
        · rw [getD_set_ne true hjk] at hun; exact hun
      refine wpOp_mono (fun a' w' h3 => ⟨h3.2.1, ih (listed.setIfInBounds j true) a' w' hfree' (ready_mono hr (Ne.symm hji)) h3.1 ?_⟩) h2
      rw [Array.setIfInBounds_comm _ _ hji]
      exact h3.2.2

/-! the moves -/
theorem wpAnyT_take {i : Nat} {oi : Oper} {v : Value} {fuel : Nat} {listed : Array Bool} {a : Act} {w : World} (hi : ops[i]? = some oi)
    (hs : Region.noSelect ops = true) (hf : Region.free md ops listed i = true) (hr : (Region.ready md ops listed).contains i = true) (hl : lateB md ops T listed (fillB md ops i ops.size listed) i = true)
    (hQ : ∀ c a w, Q (.panic c) (a.put oi.dst v) w → Q (.panic c) a w) (hy : YieldsIf P ops S oi v a) (hS : S w)
    (h : wpAnyT P md ops Q S T fuel (listed.setIfInBounds i true) (a.put oi.dst v) w) : wpAnyT P md ops Q S T (fuel + 1) listed a w := by
  simp only [lateB, Bool.and_eq_true, decide_eq_true_eq, List.all_eq_true, List.mem_range, Bool.or_eq_true, Bool.not_eq_true'] at hl
  obtain ⟨⟨⟨⟨h1, h2⟩, h3⟩, h4⟩, h5⟩ := hl
  refine wpAnyT_first hi (Region.noSelect_spec hs) hQ h1 h2 fuel listed a w (fun k hk => ?_) (fun j hj hm => ?_) (Region.free_spec hi hf) (by simpa using hr) hy hS h
  · have hk' : k < ops.size := by
      rw [← h4]
      rcases Nat.lt_or_ge k listed.size with h' | h'
      · exact h'
      · simp [Array.getD, Nat.not_lt.2 h'] at hk
    rcases h3 k hk' with h | h
    · rw [h] at hk; cases hk
    · exact h
  · rcases h5 j hj with h | h
    · rw [h] at hm; cases hm
    · exact h
theorem wpAnyT_yield {i : Nat} {oi : Oper} {v : Value} {fuel : Nat} {listed : Array Bool} {a : Act} {w : World} (hi : ops[i]? = some oi) (hiT : i ∈ T)
    (hs : Region.noSelect ops = true) (hf : Region.free md ops listed i = true) (hr : (Region.ready md ops listed).contains i = true)
    (hQ : ∀ c a w, Q (.panic c) (a.put oi.dst v) w → Q (.panic c) a w) (hy : YieldsIf P ops (fun _ => True) oi v a)
    (h : wpAnyT P md ops Q S T fuel (listed.setIfInBounds i true) (a.put oi.dst v) w) : wpAnyT P md ops Q S T (fuel + 1) listed a w :=
  wpAnyT_yield0 hi hiT (Region.noSelect_spec hs) hQ fuel listed a w (Region.free_spec hi hf) (by simpa using hr) hy h

def AllReadyT (P : Program) (md : Region.Mode) (ops : Array Oper) (Q : Exit → Act → World → Prop) (S : World → Prop) (T : List Nat) (fuel : Nat) (listed : Array Bool) (a : Act) (w : World) (rs : List Nat) : Prop :=
  ∀ i ∈ rs, wpOp P ops Q i (fun a' w' => (i ∉ T → S w') ∧ wpAnyT P md ops Q S T fuel (listed.setIfInBounds i true) a' w') a w
theorem AllReadyT.nil {fuel : Nat} {listed : Array Bool} {a : Act} {w : World} : AllReadyT P md ops Q S T fuel listed a w [] := fun _ h => by cases h
/-- one that keeps S -/
theorem AllReadyT.cons {fuel : Nat} {listed : Array Bool} {a : Act} {w : World} {i : Nat} {o : Oper} {rs : List Nat} (ho : ops[i]? = some o)
    (h : ∀ K' : Act → World → Prop, Shut (∀ a w, S w → (S w → wpAnyT P md ops Q S T fuel (listed.setIfInBounds i true) a w) → K' a w) → if Region.wanted o (yielded ops a.tmps) = true then Oper.wp P o a w K' Q else K' (a.put o.dst undef) w)
    (hs : AllReadyT P md ops Q S T fuel listed a w rs) : AllReadyT P md ops Q S T fuel listed a w (i :: rs) := fun j hj => by
  rcases List.mem_cons.1 hj with rfl | hj
  · exact wpOp_step ho (fun K' hK => h K' (fun a w hS hW => hK a w ⟨fun _ => hS, hW hS⟩))
  · exact hs j hj
/-- one of the tail -/
theorem AllReadyT.late {fuel : Nat} {listed : Array Bool} {a : Act} {w : World} {i : Nat} {o : Oper} {rs : List Nat} (ho : ops[i]? = some o) (hiT : i ∈ T)
    (h : ∀ K' : Act → World → Prop, Shut (∀ a w, wpAnyT P md ops Q S T fuel (listed.setIfInBounds i true) a w → K' a w) → if Region.wanted o (yielded ops a.tmps) = true then Oper.wp P o a w K' Q else K' (a.put o.dst undef) w)
    (hs : AllReadyT P md ops Q S T fuel listed a w rs) : AllReadyT P md ops Q S T fuel listed a w (i :: rs) := fun j hj => by
  rcases List.mem_cons.1 hj with rfl | hj
  · exact wpOp_step ho (fun K' hK => h K' (fun a w hW => hK a w ⟨fun h => absurd hiT h, hW⟩))
  · exact hs j hj
theorem wpAnyT_ready {rs : List Nat} {fuel : Nat} {listed : Array Bool} {a : Act} {w : World} (hr : Region.ready md ops listed = rs) (hne : rs ≠ [])
    (h : AllReadyT P md ops Q S T fuel listed a w rs) : wpAnyT P md ops Q S T (fuel + 1) listed a w :=
  ⟨fun h0 => absurd (hr ▸ h0) hne, hr ▸ h⟩
theorem wpAnyT_done {listed : Array Bool} {a : Act} {w : World} (hr : Region.ready md ops listed = []) (h : Q .normal a w) :
    ∀ fuel, wpAnyT P md ops Q S T fuel listed a w
  | 0 => ⟨hr, h⟩
  | _ + 1 => ⟨fun _ => h, by rw [hr]; simp⟩
theorem wp_region_T {id : Nat} {a : Act} {w : World} (T : List Nat) (hm : P.follows .mixedOrders = true) (hS : S w.drew)
    (h : S w.drew → wpAnyT P .any ops Q S T ops.size (Array.replicate ops.size false) a w.drew) : (Code.region id ops true).wp P Q a w :=
  wp_region_any hm (wpAny_of_T _ _ _ _ (h hS))

/-- all that is still to come is of the tail, and comes in the order of the text -/
theorem wpAnyT_of_any : ∀ (fuel : Nat) (listed : Array Bool) (a : Act) (w : World), (∀ j, j ∈ Region.ready md ops listed → j ∈ T) → (∀ j < ops.size, listed.getD j true = false → j ∈ T) →
    wpAny P md ops Q fuel listed a w → wpAnyT P md ops Q S T fuel listed a w
  | 0, _, _, _, _, _, h => h
  | fuel + 1, listed, a, w, hT, hU, h => ⟨h.1, fun i hi => wpOp_mono (fun a' w' h' => ⟨fun hn => absurd (hT i hi) hn, wpAnyT_of_any fuel _ a' w' (fun j hj => by
      obtain ⟨hjun, oj, hoj, _⟩ := mem_ready.1 hj
      refine hU j (Array.getElem?_eq_some_iff.1 hoj).1 ?_
      by_cases hij : i = j
      · subst hij
        exfalso
        have hlt : i < (listed.setIfInBounds i true).size ∨ ¬ i < (listed.setIfInBounds i true).size := by omega
        rcases hlt with h | h
        · simp only [Array.getD, h, dif_pos] at hjun; simp at hjun
        · simp only [Array.getD, h, dif_neg] at hjun; simp at hjun
      · rw [getD_set_ne true hij] at hjun; exact hjun) (fun j hj hun => by
      by_cases hij : i = j
      · subst hij; exact hT i hi
      · rw [getD_set_ne true hij] at hun; exact hU j hj hun) h'⟩) (h.2 i hi)⟩
theorem wpAnyT_seq {l : List Oper} {k : Nat} {listed : Array Bool} {a : Act} {w : World} (hT : ((List.range ops.size).all fun j => listed.getD j true || T.contains j) = true) (hl : ∀ j, l[j]? = ops[k + j]?)
    (hB : Region.seqB md ops l.length k listed = true) (h : wpList P ops Q l a w) : wpAnyT P md ops Q S T l.length listed a w := by
  have hU : ∀ j < ops.size, listed.getD j true = false → j ∈ T := fun j hj hun => by
    have := List.all_eq_true.1 hT j (List.mem_range.2 hj)
    simpa [hun] using this
  exact wpAnyT_of_any _ _ _ _ (fun j hj => by
    obtain ⟨hjun, oj, hoj, _⟩ := mem_ready.1 hj
    exact hU j (Array.getElem?_eq_some_iff.1 hoj).1 hjun) hU (wpAny_of_seq l k listed a w hl hB h)
/-- the operations of these numbers -/
inductive Picks (ops : Array Oper) : List Nat → List Oper → Prop
  | nil : Picks ops [] []
  | cons {k : Nat} {o : Oper} {ks : List Nat} {l : List Oper} : ops[k]? = some o → Picks ops ks l → Picks ops (k :: ks) (o :: l)
/-- just these come up, one behind the other -/
def chainK (md : Region.Mode) (ops : Array Oper) : List Nat → Array Bool → Bool
  | [], listed => (Region.ready md ops listed).isEmpty
  | k :: ks, listed => decide (Region.ready md ops listed = [k]) && chainK md ops ks (listed.setIfInBounds k true)
theorem wpAny_of_chain : ∀ (ks : List Nat) (l : List Oper) (listed : Array Bool) (a : Act) (w : World), Picks ops ks l →
    chainK md ops ks listed = true → wpList P ops Q l a w → wpAny P md ops Q l.length listed a w
  | [], _, _, _, _, .nil, hB, h => ⟨by simpa [chainK] using hB, h⟩
  | k :: ks, _, listed, a, w, .cons (o := o) (l := l) ho hp, hB, h => by
    simp only [chainK, Bool.and_eq_true, decide_eq_true_eq] at hB
    refine ⟨fun h1 => (by rw [hB.1] at h1; cases h1), fun i hi => ?_⟩
    rw [hB.1] at hi
    have hik : i = k := by simpa using hi
    subst hik
    have hw : wpOp P ops Q i (wpList P ops Q l) a w := by unfold wpOp; simp only [ho]; exact h
    exact wpOp_mono (fun a' w' h' => wpAny_of_chain ks l _ a' w' hp hB.2 h') hw
theorem wpAnyT_chain (ks : List Nat) {l : List Oper} {fuel : Nat} {listed : Array Bool} {a : Act} {w : World} (hp : Picks ops ks l) (hT : ((List.range ops.size).all fun j => listed.getD j true || T.contains j) = true)
    (hB : chainK md ops ks listed = true) (hf : fuel = l.length) (h : wpList P ops Q l a w) : wpAnyT P md ops Q S T fuel listed a w := by
  subst hf
  have hU : ∀ j < ops.size, listed.getD j true = false → j ∈ T := fun j hj hun => by
    have := List.all_eq_true.1 hT j (List.mem_range.2 hj)
    simpa [hun] using this
  exact wpAnyT_of_any _ _ _ _ (fun j hj => by
    obtain ⟨hjun, oj, hoj, _⟩ := mem_ready.1 hj
    exact hU j (Array.getElem?_eq_some_iff.1 hoj).1 hjun) hU (wpAny_of_chain ks l listed a w hp hB h)
end
end Go.Proofs.YtocijpeminghoaaGreatDoor
