/- Layer 7: Append. -/
import Derived.Test.YtadbcikabpbogaaDskN
import Derived.Maps.RangeWalk
namespace Go.Proofs.Ytadbcikabpbogaa
open Go.RowKit Go.Maps
set_option maxRecDepth 100000
set_option linter.unusedVariables false
set_option linter.unusedSimpArgs false

def doneL (left : Lit → Bool) (L : List FB) : Nat := (L.map fun x => if left (.string x.f.nm) = true then 0 else x.f.b.length).sum
theorem doneL_start {left : Lit → Bool} {L : List FB} (h : ∀ x ∈ L, left (.string x.f.nm) = true) : doneL left L = 0 := by
  unfold doneL
  rw [List.map_congr_left (g := fun _ => 0) (fun x hx => by simp [h x hx])]
  induction L with
  | nil => rfl
  | cons a r ih => simp only [List.map_cons, List.sum_cons]; rw [ih (fun x hx => h x (by simp [hx]))]
theorem doneL_end {left : Lit → Bool} (h : ∀ kl, left kl = false) (L : List FB) : doneL left L = allF (L.map FB.f) := by
  unfold doneL allF
  rw [List.map_map]
  congr 1
  exact List.map_congr_left (fun x _ => by simp [h])
theorem doneL_congr {left left' : Lit → Bool} {L : List FB} (h : ∀ x ∈ L, left' (.string x.f.nm) = left (.string x.f.nm)) : doneL left' L = doneL left L := by
  unfold doneL
  congr 1
  exact List.map_congr_left (fun x hx => by rw [h x hx])
theorem doneL_cons (left : Lit → Bool) (g : FB) (r : List FB) : doneL left (g :: r) = (if left (.string g.f.nm) = true then 0 else g.f.b.length) + doneL left r := by simp [doneL]
theorem doneL_step {left : Lit → Bool} {x : FB} : ∀ {L : List FB}, Rise FB.nm L → x ∈ L → left (.string x.f.nm) = true → doneL (fun z => left z && !z.sameKey (.string x.f.nm)) L = doneL left L + x.f.b.length
  | [], _, h, _ => by simp at h
  | g :: r, hr, h, hl => by
    have hc := List.pairwise_cons.1 hr
    have hs : ∀ y : FB, (Lit.string y.f.nm).sameKey (.string x.f.nm) = (y.f.nm == x.f.nm) := fun y => rfl
    rcases List.mem_cons.1 h with rfl | h
    · have e := doneL_congr (L := r) (left := left) (left' := fun z => left z && !z.sameKey (.string x.f.nm)) (fun y hy => by
        have hne : y.f.nm ≠ x.f.nm := fun e => by
          have := hc.1 y hy
          simp only [FB.nm] at this
          rw [e, bb_irrefl] at this; cases this
        simp only [hs]
        simp [hne])
      rw [doneL_cons, doneL_cons, e, hl, if_pos rfl, hs]
      simp
      omega
    · have ih := doneL_step hc.2 h hl
      have hne : g.f.nm ≠ x.f.nm := fun e => by
        have := hc.1 x h
        simp only [FB.nm] at this
        rw [e, bb_irrefl] at this; cases this
      rw [doneL_cons, doneL_cons, ih, hs]
      simp [hne]
      omega
theorem doneL_le (left : Lit → Bool) : ∀ L : List FB, doneL left L ≤ allF (L.map FB.f)
  | [] => by simp [doneL, allF]
  | g :: r => by
    have ih := doneL_le left r
    unfold doneL allF at ih ⊢
    simp only [List.map_cons, List.sum_cons]
    split <;> omega
theorem has_mapD {L : List FB} {x : FB} (hx : x ∈ L) : Maps.has (mapD L) (.string x.f.nm) = true := by
  unfold mapD Maps.has
  simp only [List.any_map, List.any_eq_true]
  exact ⟨x, hx, by simp [Lit.sameKey]⟩
def mkPF : Option Nat → Value | none => .pointer none | some b => .pointer (some ⟨b, 0, none⟩)
theorem ptrElem_mk {v : Value} {y : DataW Unit × List MemPlace} (h : ptrElem v = some y) : ∃ c, v = mkPF c := by
  obtain ⟨d, ps⟩ := y
  rcases ptrElem_inv h with ⟨rfl, _⟩ | ⟨b, rfl, _⟩
  · exact ⟨none, rfl⟩
  · exact ⟨some b, rfl⟩
theorem strKey_inv {key : Value} {kl : Lit} (h : keyOf Try.prog 9 key = some kl) : ∃ x : ByteArray, key = .string x ∧ kl = .string x.data.toList := by
  have hk : Try.prog.underlying 9 = _ := Try.underlying9
  cases key <;> simp [keyOf, hk, mapKey] at h
  obtain ⟨_, rfl⟩ := h
  exact ⟨_, rfl, rfl⟩
/-- the entry that has come is a file -/
theorem entry_file {L : List FB} {kl : Lit} {x : ByteArray} {c : Option Nat} {y : DataW Unit × List MemPlace} (hk : keyOf Try.prog 9 (.string x) = some kl) (hv : ptrElem (mkPF c) = some y) (hat : ∀ zd, (mapD L).atKey kl zd = y.1) :
    ∃ f ∈ L, kl = .string f.f.nm ∧ c = some f.blk := by
  obtain ⟨x', e, rfl⟩ := strKey_inv hk
  cases e
  have h1 := hat (.lit (.int .i64 (-1)))
  have h2 := hat (.lit (.int .i64 (-2)))
  rw [mapD_at] at h1 h2
  cases hg : getK FB.nm x.data.toList L with
  | none =>
    rw [hg] at h1 h2
    simp only at h1 h2
    rw [← h1] at h2
    simp at h2
  | some f =>
    rw [hg] at h1
    simp only at h1
    obtain ⟨hf, hn⟩ := getK_some hg
    refine ⟨f, hf, by rw [← hn]; rfl, ?_⟩
    obtain ⟨d, ps⟩ := y
    cases c with
    | none =>
      rcases ptrElem_inv hv with ⟨_, hd⟩ | ⟨b, hb, _⟩
      · simp only at h1 hd
        rw [hd] at h1
        simp at h1
      · simp [mkPF] at hb
    | some b =>
      rcases ptrElem_inv hv with ⟨hb, _⟩ | ⟨b', hb, hd⟩
      · simp [mkPF] at hb
      · simp only [mkPF, Value.pointer.injEq, Option.some.injEq, Addr.mk.injEq] at hb
        obtain ⟨rfl, _⟩ := hb
        simp only at h1 hd
        rw [hd] at h1
        simp at h1
        congr 1
        omega
theorem work_congr (st : DS) {G G' : List DF → List DF} (h : G st.fs = G' st.fs) : st.work G = st.work G' := by
  unfold DS.work
  rw [h]
theorem append_none {st : DS} {nm l : List UInt8} (hd : ¬ st.dead = true) (hok : nameOk nm = true) (hg : getF nm st.fs = none) : st.append nm l = if 20 ≤ st.fs.length ∨ 4194304 < allF st.fs + l.length then (7, st) else st.work (putF ⟨nm, l, 0⟩) := by
  unfold DS.append
  rw [if_neg hd, hok, if_neg (by simp), work_congr st (G' := putF ⟨nm, l, 0⟩) (by rw [hg])]
  simp [hg]
theorem append_some {st : DS} {nm l : List UInt8} {f : DF} (hd : ¬ st.dead = true) (hok : nameOk nm = true) (hg : getF nm st.fs = some f) : st.append nm l = if 4194304 < allF st.fs + l.length then (7, st) else st.work (putF ⟨nm, f.b ++ l, f.mark⟩) := by
  unfold DS.append
  rw [if_neg hd, hok, if_neg (by simp), work_congr st (G' := putF ⟨nm, f.b ++ l, f.mark⟩) (by rw [hg])]
  simp [hg]
theorem Rd.blk {w w' : World} {v : Value} {l : List UInt8} (h : Rd w v l) (hb : ∀ g o, v.ownBlock = some g → l ≠ [] → w.heap[g]? = some o → w'.heap[g]? = some o) : Rd w' v l := by
  rcases h with h | ⟨blk, off, cap, rfl, h2, h3, h4, h5⟩
  · exact .inl h
  · by_cases hl : l = []
    · subst hl
      exact .inl ⟨rfl, _, cap, rfl, h3, by simp⟩
    have hb := hb blk _ rfl hl (Array.getElem?_eq_getElem h4)
    refine .inr ⟨blk, off, cap, rfl, h2, h3, (Array.getElem?_eq_some_iff.1 hb).1, fun j hj => ?_⟩
    rw [← h5 j hj]
    exact World.cell?_of_block (by rw [hb, Array.getElem?_eq_getElem h4])
theorem Rd.lt {w : World} {v : Value} {l : List UInt8} (h : Rd w v l) {g : Nat} (hg : v.ownBlock = some g) (hne : l ≠ []) : g < w.heap.size := by
  rcases h with ⟨h, _⟩ | ⟨blk, off, cap, rfl, h2, h3, h4, h5⟩
  · exact absurd h hne
  · cases hg; exact h4
end Go.Proofs.Ytadbcikabpbogaa
