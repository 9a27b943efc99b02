/- Layer 15, plain: rows that rise, what goes of them; what is read behind a sweep; a sweep again. -/
import Derived.Test.YtocijpeminghoaaGreatDoorSweA
namespace Go.Proofs.YtocijpeminghoaaGreatDoor
open Go.RowKit
set_option maxRecDepth 100000
set_option linter.unusedVariables false
set_option linter.unusedSimpArgs false
set_option linter.unnecessarySimpa false

/-! what a version's key says -/
def kl (x : Rw) : List UInt8 := (readVersionR x.1.data.toList).1
def sa (x : Rw) : Int := (readVersionR x.1.data.toList).2.1
def sb (x : Rw) : Int := (readVersionR x.1.data.toList).2.2.1
def rdk (x : Rw) : Bool := (readVersionR x.1.data.toList).2.2.2 == 0
theorem whose_inv {l : List UInt8} {c : UInt8} (h : (whoseR l c).2.2 = true) : l = c :: (keyL (whoseR l c).1 ++ (whoseR l c).2.1) := by
  unfold whoseR at h ⊢
  cases l with
  | nil => simp at h
  | cons d t =>
    simp only at h ⊢
    by_cases hd : d = c
    · rw [if_pos hd] at h ⊢
      rw [hd]
      simp only [decide_eq_true_eq] at h
      rcases takeL_inv t.length t [] (Nat.le_refl _) (by simp) with ⟨e, h1, h2⟩ | ⟨s, x, h1, h2, h3⟩
      · rw [h1] at h; exact absurd h h2
      · rw [h1]
        simp only [List.nil_append]
        unfold keyL
        rw [List.append_assoc]
        simp only [List.cons_append, List.nil_append]
        rw [h2]
    · rw [if_neg hd] at h; simp at h
theorem readV_inv {l : List UInt8} (h : (readVersionR l).2.2.2 = 0) : l = 118 :: (keyL (readVersionR l).1 ++ downL (readVersionR l).2.1 (readVersionR l).2.2.1) ∧ mayB (readVersionR l).2.1 (readVersionR l).2.2.1 = true := by
  unfold readVersionR at h ⊢
  split at h
  · rename_i hc
    rw [if_pos hc]
    obtain ⟨h1, h2, h3⟩ := hc
    have hw := whose_inv h1
    rcases takeDown_again (whoseR l 118).2.1 with ⟨e, h4, h5⟩ | ⟨a, b, x, h4, h5, h6⟩
    · rw [h4] at h2; exact absurd h2 h5
    · rw [h4] at h3 ⊢
      simp only at h3 ⊢
      subst h3
      rw [List.append_nil] at h6
      refine ⟨?_, h5⟩
      rw [h6]
      exact hw
  · simp at h
theorem klt_data (x y : ByteArray) : klt x y = Op.bytesLess x.data.toList y.data.toList := by
  unfold klt
  rw [ByteArray.toList_eq, ByteArray.toList_eq]
theorem klt_irrefl (x : ByteArray) : klt x x = false := bl_irrefl _
theorem klt_asymm {x y : ByteArray} (h : klt x y = true) : klt y x = false := by
  cases h2 : klt y x with
  | false => rfl
  | true => exact absurd (bl_trans h h2) (by rw [bl_irrefl]; simp)
theorem klt_total {x y : ByteArray} (h : klt x y = false) (h2 : klt y x = false) : x = y := by
  have := bl_total _ _ h h2
  rw [ByteArray.toList_eq, ByteArray.toList_eq] at this
  have h3 := Array.toList_inj.1 this
  cases x; cases y; simpa using h3
/-- two version rows stand as their keys do; of one key the greater stamp's ahead -/
theorem ver_klt {x y : Rw} (hx : rdk x = true) (hy : rdk y = true) (h : klt x.1 y.1 = true) : (kl x ≠ kl y ∧ Op.bytesLess (kl x) (kl y) = true) ∨ (kl x = kl y ∧ (sa y < sa x ∨ sa x = sa y ∧ sb y < sb x)) := by
  unfold rdk at hx hy
  obtain ⟨h1, h2⟩ := readV_inv (by simpa using hx)
  obtain ⟨h3, h4⟩ := readV_inv (by simpa using hy)
  rw [klt_data, h1, h3, less_cons] at h
  by_cases he : kl x = kl y
  · refine .inr ⟨he, ?_⟩
    unfold kl at he
    rw [he, less_key_same, less_down h2 h4] at h
    simpa [sa, sb] using h
  · refine .inl ⟨he, ?_⟩
    rw [less_key_app (by exact he)] at h
    exact h
/-! lists of rows that rise -/
theorem rising_lt {R : List Rw} (hR : RisingR R) {i j : Nat} (hi : i < R.length) (hj : j < R.length) (h : klt R[i].1 R[j].1 = true) : i < j := by
  refine Nat.lt_of_not_le (fun hle => ?_)
  rcases Nat.lt_or_eq_of_le hle with h2 | h2
  · have := List.pairwise_iff_getElem.1 hR j i hj hi h2
    rw [klt_asymm this] at h; cases h
  · subst h2; rw [klt_irrefl] at h; cases h
theorem rising_filter {R : List Rw} (hR : RisingR R) (p : Rw → Bool) : RisingR (R.filter p) := List.Pairwise.filter p hR
theorem rising_ne {R : List Rw} (hR : RisingR R) {x y : Rw} (hx : x ∈ R) (hy : y ∈ R) (h : x.1 = y.1) : x = y := by
  obtain ⟨i, hi, rfl⟩ := List.mem_iff_getElem.1 hx
  obtain ⟨j, hj, rfl⟩ := List.mem_iff_getElem.1 hy
  rcases Nat.lt_trichotomy i j with h2 | h2 | h2
  · have := List.pairwise_iff_getElem.1 hR i j hi hj h2
    rw [h] at this
    have h3 := klt_irrefl R[j].1
    unfold klt at this h3
    rw [this] at h3; cases h3
  · subst h2; rfl
  · have := List.pairwise_iff_getElem.1 hR j i hj hi h2
    rw [h] at this
    have h3 := klt_irrefl R[j].1
    unfold klt at this h3
    rw [this] at h3; cases h3
theorem above_filter (k : ByteArray) : ∀ {R : List Rw}, RisingR R → aboveR k R = R.filter (fun x => !klt x.1 k)
  | [], _ => rfl
  | x :: r, h => by
    obtain ⟨h1, h2⟩ := List.pairwise_cons.1 h
    unfold aboveR
    rw [List.dropWhile_cons, List.filter_cons]
    cases hx : klt x.1 k with
    | true =>
      have ih := above_filter k h2
      unfold aboveR at ih
      simpa using ih
    | false =>
      simp only [Bool.false_eq_true, if_false, Bool.not_false, if_true]
      congr 1
      rw [List.filter_eq_self.2]
      intro y hy
      have hxy : klt x.1 y.1 = true := h1 y hy
      cases hyk : klt y.1 k with
      | false => rfl
      | true =>
        have h3 : klt x.1 k = true := bl_trans hxy hyk
        rw [h3] at hx; cases hx
theorem until_filter (k : ByteArray) : ∀ {R : List Rw}, RisingR R → untilR k R = R.filter (fun x => k.toList.isEmpty || klt x.1 k)
  | [], _ => rfl
  | x :: r, h => by
    obtain ⟨h1, h2⟩ := List.pairwise_cons.1 h
    unfold untilR
    rw [List.takeWhile_cons, List.filter_cons]
    cases hx : (k.toList.isEmpty || klt x.1 k) with
    | true =>
      have ih := until_filter k h2
      unfold untilR at ih
      simpa using ih
    | false =>
      simp only [Bool.false_eq_true, if_false]
      symm
      rw [List.filter_eq_nil_iff]
      intro y hy hyk
      have hxy : klt x.1 y.1 = true := h1 y hy
      rw [Bool.or_eq_false_iff] at hx
      rw [hx.1, Bool.false_or] at hyk
      have h3 : klt x.1 k = true := bl_trans hxy hyk
      rw [h3] at hx
      cases hx.2
def inB (lo hi : ByteArray) (x : Rw) : Bool := !klt x.1 lo && (hi.toList.isEmpty || klt x.1 hi)
theorem between_filter {lo hi : ByteArray} {R : List Rw} (h : RisingR R) : betweenR lo hi R = R.filter (inB lo hi) := by
  unfold betweenR
  rw [above_filter lo h, until_filter hi (rising_filter h _), List.filter_filter]
  congr 1
  funext x
  unfold inB
  rw [Bool.and_comm]
theorem rising_split {A B : List Rw} {x : Rw} (h : RisingR (A ++ x :: B)) : (∀ y ∈ A, klt y.1 x.1 = true) ∧ (∀ y ∈ B, klt x.1 y.1 = true) := by
  obtain ⟨h1, h2, h3⟩ := List.pairwise_append.1 h
  exact ⟨fun y hy => h3 y hy x (by simp), fun y hy => (List.pairwise_cons.1 h2).1 y hy⟩
/-- a key that is there is dropped -/
theorem drop_filter {R : List Rw} (hR : RisingR R) {x : Rw} (hx : x ∈ R) : dropR x.1 R = R.filter (fun y => decide (y ≠ x)) := by
  obtain ⟨A, B, rfl⟩ := List.append_of_mem hx
  obtain ⟨h1, h2⟩ := rising_split hR
  have hA : A.filter (fun y => decide (y ≠ x)) = A := List.filter_eq_self.2 (fun y hy => by
    have := h1 y hy
    refine decide_eq_true (fun e => ?_)
    subst e
    rw [klt_irrefl] at this; cases this)
  have hB : B.filter (fun y => decide (y ≠ x)) = B := List.filter_eq_self.2 (fun y hy => by
    have := h2 y hy
    refine decide_eq_true (fun e => ?_)
    subst e
    rw [klt_irrefl] at this; cases this)
  have e1 : belowR x.1 (A ++ x :: B) = A := by
    unfold belowR
    rw [List.takeWhile_append_of_pos h1, List.takeWhile_cons_of_neg (by rw [klt_irrefl]; simp), List.append_nil]
  have e2 : aboveR x.1 (A ++ x :: B) = x :: B := by
    unfold aboveR
    rw [List.dropWhile_append_of_pos h1, List.dropWhile_cons_of_neg (by rw [klt_irrefl]; simp)]
  unfold dropR
  rw [e1, e2, List.filter_append, hA, List.filter_cons_of_neg (by simp), hB]
  simp [restR]
theorem get_mem {R : List Rw} (hR : RisingR R) {x : Rw} (hx : x ∈ R) : getR x.1 R = some x.2 := by
  obtain ⟨A, B, rfl⟩ := List.append_of_mem hx
  obtain ⟨h1, h2⟩ := rising_split hR
  have e2 : aboveR x.1 (A ++ x :: B) = x :: B := by
    unfold aboveR
    rw [List.dropWhile_append_of_pos h1, List.dropWhile_cons_of_neg (by rw [klt_irrefl]; simp)]
  unfold getR
  rw [e2]
  simp
/-! what goes -/
def nsl (lo hi : ByteArray) (a b : Int) (x : Rw) : Bool := !swSkip lo hi a b x
def isV (x : Rw) : Bool := (takeVerR x.2.data.toList).2.1
def goB (lo hi : ByteArray) (a b : Int) (V : List Rw) (x : Rw) : Bool := nsl lo hi a b x && (V.any (fun z => klt z.1 x.1 && (nsl lo hi a b z && (kl z == kl x))) || !isV x)
def opGo (x : Rw) : Opp := ⟨x.1, ⟨#[]⟩, true⟩
theorem nsl_rdk {lo hi : ByteArray} {a b : Int} {x : Rw} (h : nsl lo hi a b x = true) : rdk x = true := by
  unfold nsl swSkip at h
  unfold rdk
  cases h2 : (readVersionR x.1.data.toList).2.2.2 == 0 with
  | true => rfl
  | false => rw [h2] at h; simp at h
theorem key_list (x : Rw) : (keyOf x).toList = kl x := by
  rw [ByteArray.toList_eq]
  rfl
theorem mono_key {x y : Rw} (hx : rdk x = true) (hy : rdk y = true) (h : klt x.1 y.1 = true) : Op.bytesLess (kl y) (kl x) = false := by
  rcases ver_klt hx hy h with ⟨_, h2⟩ | ⟨h2, _⟩
  · cases h3 : Op.bytesLess (kl y) (kl x) with
    | false => rfl
    | true => exact absurd (bl_trans h2 h3) (by rw [bl_irrefl]; simp)
  · rw [h2, bl_irrefl]
structure SwInv (lo hi : ByteArray) (a b : Int) (V pre : List Rw) (st : SwSt) : Prop where
  any : st.any = pre.any (nsl lo hi a b)
  last : st.any = true → ∃ z ∈ pre, nsl lo hi a b z = true ∧ st.last = keyOf z ∧ ∀ y ∈ pre, nsl lo hi a b y = true → y = z ∨ klt y.1 z.1 = true
  out : st.out = (pre.filter (goB lo hi a b V)).map opGo
theorem sw_inv {lo hi : ByteArray} {a b : Int} {V : List Rw} (hV : RisingR V) : ∀ k, k ≤ V.length → SwInv lo hi a b V (V.take k) (swFold lo hi a b (V.take k))
  | 0, _ => by rw [List.take_zero]; exact ⟨rfl, (fun h => by cases h), rfl⟩
  | k + 1, hk => by
    have hk' : k < V.length := hk
    have ih := sw_inv (lo := lo) (hi := hi) (a := a) (b := b) hV k (Nat.le_of_lt hk')
    rw [List.take_succ_eq_append_getElem hk', swFold_snoc]
    generalize swFold lo hi a b (V.take k) = st at ih
    have hpre : ∀ y ∈ V.take k, klt y.1 V[k].1 = true := fun y hy => by
      obtain ⟨i, hi, rfl⟩ := List.mem_iff_getElem.1 hy
      rw [List.length_take] at hi
      rw [List.getElem_take]
      exact List.pairwise_iff_getElem.1 hV i k (by omega) hk' (by omega)
    unfold swOne
    by_cases hs : swSkip lo hi a b V[k] = true
    · have hn : nsl lo hi a b V[k] = false := by unfold nsl; rw [hs]; rfl
      have hg : goB lo hi a b V V[k] = false := by unfold goB; rw [hn]; rfl
      rw [if_pos hs]
      refine ⟨by rw [ih.any, List.any_append]; simp [hn], fun h => ?_, by rw [ih.out, List.filter_append]; simp [hg]⟩
      obtain ⟨z, h1, h2, h3, h4⟩ := ih.last h
      refine ⟨z, List.mem_append_left _ h1, h2, h3, fun y hy hny => ?_⟩
      rcases List.mem_append.1 hy with hy | hy
      · exact h4 y hy hny
      · rw [List.mem_singleton.1 hy, hn] at hny; cases hny
    · have hn : nsl lo hi a b V[k] = true := by unfold nsl; simpa using hs
      rw [if_neg hs]
      have hf : (!swFirst st V[k]) = V.any (fun z => klt z.1 V[k].1 && (nsl lo hi a b z && (kl z == kl V[k]))) := by
        unfold swFirst
        rw [Bool.eq_iff_iff]
        simp only [Bool.not_or, Bool.not_not, Bool.and_eq_true, List.any_eq_true, beq_iff_eq, key_list]
        constructor
        · rintro ⟨h1, h2⟩
          obtain ⟨z, z1, z2, z3, z4⟩ := ih.last h1
          refine ⟨z, List.mem_of_mem_take z1, hpre z z1, z2, ?_⟩
          rw [h2, z3, key_list]
        · rintro ⟨z, z1, z2, z3, z4⟩
          have hzp : z ∈ V.take k := by
            obtain ⟨i, hi, rfl⟩ := List.mem_iff_getElem.1 z1
            have := rising_lt hV hi hk' z2
            rw [List.mem_iff_getElem]
            exact ⟨i, by rw [List.length_take]; omega, by rw [List.getElem_take]⟩
          have ha : st.any = true := by rw [ih.any, List.any_eq_true]; exact ⟨z, hzp, z3⟩
          refine ⟨ha, ?_⟩
          obtain ⟨z0, y1, y2, y3, y4⟩ := ih.last ha
          rw [y3, key_list]
          rcases y4 z hzp z3 with e | e
          · rw [← e, z4]
          · have m1 := mono_key (nsl_rdk z3) (nsl_rdk y2) e
            have m2 := mono_key (nsl_rdk y2) (nsl_rdk hn) (hpre z0 y1)
            rw [z4] at m1
            exact bl_total _ _ m2 m1
      have hg : goB lo hi a b V V[k] = (!swFirst st V[k] || !(takeVerR V[k].2.data.toList).2.1) := by
        unfold goB
        rw [hn, Bool.true_and, hf]
        rfl
      rw [← hg]
      refine ⟨by rw [List.any_append]; simp [hn], fun _ => ⟨V[k], List.mem_append.2 (.inr (List.mem_singleton.2 rfl)), hn, rfl, fun y hy hny => ?_⟩, ?_⟩
      · rcases List.mem_append.1 hy with hy | hy
        · exact .inr (hpre y hy)
        · exact .inl (List.mem_singleton.1 hy)
      · rw [List.filter_append, List.map_append, ← ih.out]
        cases hgg : goB lo hi a b V V[k] with
        | true => simp [hgg, opGo]
        | false => simp [hgg]
/-- what goes of rising rows -/
theorem sw_out {lo hi : ByteArray} {a b : Int} {V : List Rw} (hV : RisingR V) : (swFold lo hi a b V).out = (V.filter (goB lo hi a b V)).map opGo := by
  have := (sw_inv (lo := lo) (hi := hi) (a := a) (b := b) hV V.length (Nat.le_refl _)).out
  rwa [List.take_length] at this
end Go.Proofs.YtocijpeminghoaaGreatDoor
namespace Go.Proofs.YtocijpeminghoaaGreatDoor
open Go.RowKit Classical
set_option maxRecDepth 100000
set_option linter.unusedVariables false
set_option linter.unusedSimpArgs false
set_option linter.unnecessarySimpa false

def tvk (x : Rw) : Bool := (takeVerR x.2.data.toList).2.2 == 0
def rdP (key : ByteArray) (a b : Int) (x : Rw) : Bool := rdk x && (tvk x && ((kl x == key.toList) && lessS (sa x) (sb x) a b))
def valR (x : Rw) : ByteArray × Bool := (⟨(takeVerR x.2.data.toList).1.toArray⟩, isV x)
def rdL (key : ByteArray) (a b : Int) (V : List Rw) : ByteArray × Bool := match V.find? (rdP key a b) with | some x => valR x | none => (⟨#[]⟩, false)
noncomputable def rmv (D V : List Rw) : List Rw := V.filter (fun y => decide (y ∉ D))
theorem rmv_nil (V : List Rw) : rmv [] V = V := by unfold rmv; rw [List.filter_eq_self.2]; simp
theorem rmv_rising {D V : List Rw} (h : RisingR V) : RisingR (rmv D V) := rising_filter h _
theorem rmv_between {D R : List Rw} {lo hi : ByteArray} (h : RisingR R) : betweenR lo hi (rmv D R) = rmv D (betweenR lo hi R) := by
  rw [between_filter (rmv_rising h), between_filter h]
  unfold rmv
  rw [List.filter_filter, List.filter_filter]
  congr 1
  funext y
  rw [Bool.and_comm]
theorem rmv_drop {D R : List Rw} (h : RisingR R) {x : Rw} (hx : x ∈ rmv D R) : dropR x.1 (rmv D R) = rmv (x :: D) R := by
  rw [drop_filter (rmv_rising h) hx]
  unfold rmv
  rw [List.filter_filter]
  congr 1
  funext y
  simp only [List.mem_cons, not_or]
  rw [Bool.decide_and]
theorem nsl_parts {lo hi : ByteArray} {a b : Int} {x : Rw} : nsl lo hi a b x = true ↔ rdk x = true ∧ tvk x = true ∧ klt (keyOf x) lo = false ∧ klt (keyOf x) hi = true ∧ lessS a b (sa x) (sb x) = false := by
  unfold nsl swSkip rdk tvk sa sb
  simp only [Bool.not_eq_true', Bool.or_eq_false_iff, Bool.not_eq_false']
  simp only [and_assoc]
theorem key_same {x y : Rw} (h : kl x = kl y) : keyOf x = keyOf y := by
  unfold keyOf
  unfold kl at h
  rw [h]
theorem less_le {a b c d e f : Int} (h1 : lessS a b c d = false) (h2 : lessS a b e f = true) : lessS c d e f = true := by
  unfold lessS at *
  simp only [Bool.or_eq_false_iff, Bool.and_eq_false_iff, decide_eq_false_iff_not, Bool.or_eq_true, Bool.and_eq_true, decide_eq_true_eq] at *
  omega
theorem less_down2 {a b c d e f : Int} (h1 : lessS a b c d = false) (h2 : e < c ∨ c = e ∧ f < d) : lessS a b e f = false := by
  unfold lessS at *
  simp only [Bool.or_eq_false_iff, Bool.and_eq_false_iff, decide_eq_false_iff_not] at *
  omega
theorem val_gone {x : Rw} (h : isV x = false) : valR x = (⟨#[]⟩, false) := by
  unfold valR
  rw [h]
  have : (takeVerR x.2.data.toList).1 = [] := by
    unfold isV at h
    unfold takeVerR at h ⊢
    split at h
    · rename_i hc
      rw [if_pos hc]
      simp only at h ⊢
      rw [h]
      rfl
    · rename_i hc
      rw [if_neg hc]
  rw [this]
/-- what is read stays, if the last one that goes is taken away -/
theorem read_step {hi : ByteArray} {a b a1 b1 : Int} {V P D : List Rw} {x : Rw} (hV : RisingR V) (hO : V.filter (goB ⟨#[]⟩ hi a b V) = P ++ x :: D) (hst : lessS a b a1 b1 = true) (key : ByteArray) :
    rdL key a1 b1 (rmv (x :: D) V) = rdL key a1 b1 (rmv D V) := by
  have hOr : RisingR (P ++ x :: D) := by rw [← hO]; exact rising_filter hV _
  obtain ⟨hP, hD⟩ := rising_split hOr
  have hxO : x ∈ V.filter (goB ⟨#[]⟩ hi a b V) := by rw [hO]; simp
  obtain ⟨hxV, hxG⟩ := List.mem_filter.1 hxO
  obtain ⟨A, B, e⟩ := List.append_of_mem hxV
  have hVr : RisingR (A ++ x :: B) := by rw [← e]; exact hV
  obtain ⟨hA, hB⟩ := rising_split hVr
  have hne : ∀ {y : Rw}, klt y.1 x.1 = true ∨ klt x.1 y.1 = true → y ≠ x := fun h e => by subst e; rw [klt_irrefl] at h; simp at h
  have hxD : x ∉ D := fun h => by have := hD x h; rw [klt_irrefl] at this; cases this
  have r1 : rmv (x :: D) A = rmv D A := by
    unfold rmv
    refine List.filter_congr (fun y hy => ?_)
    have := hne (.inl (hA y hy))
    simp [this]
  have r2 : rmv (x :: D) B = rmv D B := by
    unfold rmv
    refine List.filter_congr (fun y hy => ?_)
    have := hne (.inr (hB y hy))
    simp [this]
  have s1 : rmv (x :: D) V = rmv D A ++ rmv D B := by
    rw [e, ← r1, ← r2]
    unfold rmv
    rw [List.filter_append, List.filter_cons_of_neg (by simp)]
  have s2 : rmv D V = rmv D A ++ x :: rmv D B := by
    rw [e]
    unfold rmv
    rw [List.filter_append, List.filter_cons_of_pos (by simpa using hxD)]
  unfold rdL
  rw [s1, s2, List.find?_append, List.find?_append, List.find?_cons]
  cases hf : (rmv D A).find? (rdP key a1 b1) with
  | some z => simp
  | none =>
    cases hp : rdP key a1 b1 x with
    | false => simp
    | true =>
      simp only [Option.none_or]
      unfold goB at hxG
      rw [Bool.and_eq_true, Bool.or_eq_true] at hxG
      obtain ⟨hn, hg⟩ := hxG
      unfold rdP at hp
      simp only [Bool.and_eq_true, beq_iff_eq] at hp
      obtain ⟨p1, p2, p3, p4⟩ := hp
      obtain ⟨n1, n2, n3, n4, n5⟩ := nsl_parts.1 hn
      rcases hg with hg | hg
      · exfalso
        rw [List.any_eq_true] at hg
        obtain ⟨z, hz, hz2⟩ := hg
        simp only [Bool.and_eq_true, beq_iff_eq] at hz2
        obtain ⟨z1, z2, z3⟩ := hz2
        obtain ⟨m1, m2, m3, m4, m5⟩ := nsl_parts.1 z2
        have hzA : z ∈ A := by
          rw [e] at hz
          rcases List.mem_append.1 hz with h | h
          · exact h
          · rcases List.mem_cons.1 h with h | h
            · subst h; rw [klt_irrefl] at z1; cases z1
            · have := klt_asymm (hB z h); rw [this] at z1; cases z1
        have hzD : z ∉ D := fun h => by have := klt_asymm (hD z h); rw [this] at z1; cases z1
        rw [List.find?_eq_none] at hf
        refine hf z (List.mem_filter.2 ⟨hzA, by simpa using hzD⟩) ?_
        unfold rdP
        rw [m1, m2, z3, p3, less_le m5 hst]
        simp
      · have hgv : isV x = false := by simpa using hg
        have hb : (rmv D B).find? (rdP key a1 b1) = none := by
          rw [List.find?_eq_none]
          intro z hz hq
          obtain ⟨hzB, hzD⟩ := List.mem_filter.1 hz
          unfold rdP at hq
          simp only [Bool.and_eq_true, beq_iff_eq] at hq
          obtain ⟨q1, q2, q3, q4⟩ := hq
          have hkk : kl x = kl z := p3.trans q3.symm
          rcases ver_klt n1 q1 (hB z hzB) with ⟨h1, _⟩ | ⟨_, h1⟩
          · exact h1 hkk
          · have hnz : nsl ⟨#[]⟩ hi a b z = true := nsl_parts.2 ⟨q1, q2, by rw [← key_same hkk]; exact n3, by rw [← key_same hkk]; exact n4, less_down2 n5 h1⟩
            have hgz : goB ⟨#[]⟩ hi a b V z = true := by
              unfold goB
              rw [hnz, Bool.true_and, Bool.or_eq_true]
              left
              rw [List.any_eq_true]
              exact ⟨x, hxV, by rw [hB z hzB, hn, hkk]; simp⟩
            have hzV : z ∈ V := by rw [e]; simp [hzB]
            have hzO : z ∈ P ++ x :: D := by rw [← hO]; exact List.mem_filter.2 ⟨hzV, hgz⟩
            rcases List.mem_append.1 hzO with h | h
            · have := klt_asymm (hP z h); rw [hB z hzB] at this; cases this
            · rcases List.mem_cons.1 h with h | h
              · subst h; have := hB z hzB; rw [klt_irrefl] at this; cases this
              · simp at hzD; exact hzD h
        rw [hb]
        simp only
        rw [val_gone hgv]
/-- swept again, nothing goes -/
theorem again_none {lo hi : ByteArray} {a b : Int} {V : List Rw} : (rmv (V.filter (goB lo hi a b V)) V).filter (goB lo hi a b (rmv (V.filter (goB lo hi a b V)) V)) = [] := by
  rw [List.filter_eq_nil_iff]
  intro x hx hg
  obtain ⟨hxV, hxO⟩ := List.mem_filter.1 hx
  have hxO2 : x ∉ V.filter (goB lo hi a b V) := of_decide_eq_true hxO
  refine hxO2 (List.mem_filter.2 ⟨hxV, ?_⟩)
  unfold goB at hg ⊢
  rw [Bool.and_eq_true, Bool.or_eq_true] at hg ⊢
  refine ⟨hg.1, hg.2.imp (fun h => ?_) id⟩
  rw [List.any_eq_true] at h ⊢
  obtain ⟨z, hz, h2⟩ := h
  exact ⟨z, (List.mem_filter.1 hz).1, h2⟩
theorem filt_len (p : Rw → Bool) : ∀ R : List Rw, (R.filter (fun y => !p y)).length + (R.filter p).length = R.length
  | [] => rfl
  | x :: r => by
    have ih := filt_len p r
    rw [List.filter_cons, List.filter_cons]
    cases hp : p x <;> simp <;> omega
theorem rmv_len {R : List Rw} (p : Rw → Bool) : (rmv (R.filter p) R).length + (R.filter p).length = R.length := by
  have h : rmv (R.filter p) R = R.filter (fun y => !p y) := by
    unfold rmv
    refine List.filter_congr (fun y hy => ?_)
    cases hp : p y with
    | true =>
      have : y ∈ R.filter p := List.mem_filter.2 ⟨hy, hp⟩
      simp [this]
    | false =>
      have : y ∉ R.filter p := fun h => by rw [(List.mem_filter.1 h).2] at hp; cases hp
      simp [this]
  rw [h]
  exact filt_len p R
end Go.Proofs.YtocijpeminghoaaGreatDoor
