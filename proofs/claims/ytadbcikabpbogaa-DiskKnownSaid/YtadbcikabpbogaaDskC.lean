/- Layer 7: Crash. -/
import Derived.Test.YtadbcikabpbogaaDskK
import Derived.RegionTactic
import Derived.ChangeAlike
import Derived.BigRegion
namespace Go.Proofs.Ytadbcikabpbogaa
open Go.RowKit Go.Maps
set_option maxRecDepth 100000
set_option linter.unusedVariables false
set_option linter.unusedSimpArgs false

/-! plain words -/
def crashP (keep : List Int) (k : Nat) (fs : List DF) : List DF := crashF keep 0 (fs.take k) ++ fs.drop k
theorem crashF_length (keep : List Int) : ∀ (i : Nat) (fs : List DF), (crashF keep i fs).length = fs.length
  | _, [] => rfl
  | i, f :: r => by simp [crashF, crashF_length keep (i + 1) r]
theorem crashF_snoc (keep : List Int) (f : DF) : ∀ (i : Nat) (fs : List DF), crashF keep i (fs ++ [f]) = crashF keep i fs ++ [crashOne keep (i + fs.length) f]
  | i, [] => by simp [crashF]
  | i, g :: r => by
    simp only [List.cons_append, crashF, crashF_snoc keep f (i + 1) r, List.length_cons]
    rw [show i + 1 + r.length = i + (r.length + 1) by omega]
theorem crashP_length (keep : List Int) (k : Nat) (fs : List DF) : (crashP keep k fs).length = fs.length := by
  simp [crashP, crashF_length]; omega
theorem crashP_zero (keep : List Int) (fs : List DF) : crashP keep 0 fs = fs := by simp [crashP, crashF]
theorem crashP_all (keep : List Int) (fs : List DF) : crashP keep fs.length fs = crashF keep 0 fs := by simp [crashP]
theorem crashP_at (keep : List Int) (k : Nat) (fs : List DF) (hk : k < fs.length) : (crashP keep k fs)[k]? = some fs[k] := by
  unfold crashP
  rw [List.getElem?_append_right (by rw [crashF_length, List.length_take]; omega), crashF_length, List.length_take, show k - min k fs.length = 0 by omega]
  simp [List.getElem?_drop, List.getElem?_eq_getElem hk]
theorem crashP_step (keep : List Int) (k : Nat) (fs : List DF) (hk : k < fs.length) : crashP keep (k + 1) fs = (crashP keep k fs).set k (crashOne keep k fs[k]) := by
  unfold crashP
  rw [List.take_succ_eq_append_getElem hk, crashF_snoc, List.length_take, Nat.zero_add, Nat.min_eq_left (by omega), List.set_append_right _ _ (by rw [crashF_length, List.length_take]; omega), crashF_length, List.length_take, show k - min k fs.length = 0 by omega, List.append_assoc]
  have e : (List.drop k fs).set 0 (crashOne keep k fs[k]) = crashOne keep k fs[k] :: List.drop (k + 1) fs := by
    rw [List.drop_eq_getElem_cons hk]; rfl
  rw [e]
  rfl
theorem crashOne_nm (keep : List Int) (i : Nat) (f : DF) : (crashOne keep i f).nm = f.nm := rfl
theorem sum_set_le : ∀ (l : List Nat) (i x : Nat), (∀ h : i < l.length, x ≤ l[i]) → (l.set i x).sum ≤ l.sum
  | [], _, _, _ => by simp
  | a :: r, 0, x, h => by have := h (by simp); simp at this ⊢; omega
  | a :: r, i + 1, x, h => by
    have := sum_set_le r i x (fun hi => by have := h (by simpa using hi); simpa using this)
    simp; omega
theorem allF_set_le (fs : List DF) (i : Nat) (f : DF) (h : ∀ hi : i < fs.length, f.b.length ≤ fs[i].b.length) : allF (fs.set i f) ≤ allF fs := by
  unfold allF
  rw [List.map_set]
  exact sum_set_le _ _ _ (fun hi => by simpa using h (by simpa using hi))

theorem Own.take {w : World} {N : Nat} {q : Option Addr} {n c : Nat} {l : List UInt8} (h : Own w N (.slice q n c) l) (k : Nat) (hk : k ≤ l.length) : Own w N (.slice q k c) (l.take k) := by
  have hl : (l.take k).length = k := by rw [List.length_take]; omega
  rcases h.form with ⟨h1, h2⟩ | ⟨g, cap, cur, h1, h2, h3, h4, h5, h6, h7⟩
  · cases h1
    subst h2
    have hk0 : k = 0 := by simpa using hk
    subst hk0
    exact Own.nil _ _
  · cases h1
    refine ⟨by simp [nums], .inr ⟨g, _, cur, by rw [nums_length, hl], h2, h3, by rw [nums_length, hl]; omega, h5, by simpa using h6, ?_⟩⟩
    rw [nums_length, hl, Nat.mul_one]
    have e : (cur.toList.take l.length).take k = ((nums l).map (Value.int .u8)).take k := by rw [h7]
    rw [List.take_take, Nat.min_eq_left hk] at e
    rw [e]
    simp [nums, List.map_take]
theorem Own.len {w : World} {N : Nat} {q : Option Addr} {n c : Nat} {l : List UInt8} (h : Own w N (.slice q n c) l) : n = l.length ∧ n ≤ c ∧ (q = none → n = 0 ∧ c = 0) := by
  rcases h.form with ⟨h1, h2⟩ | ⟨g, cap, cur, h1, h2, h3, h4, h5, h6, h7⟩
  · cases h1; subst h2; simp
  · cases h1; exact ⟨rfl, h4, by simp⟩
theorem Own.blk {w w' : World} {N : Nat} {v : Value} {l : List UInt8} (h : Own w N v l) (hb : ∀ g o, v.ownBlock = some g → w.heap[g]? = some o → w'.heap[g]? = some o) : Own w' N v l := by
  refine ⟨h.1, ?_⟩
  rcases h.2 with h1 | ⟨g, cap, cur, h1, h2, h3, h4⟩
  · exact .inl h1
  · exact .inr ⟨g, cap, cur, h1, h2, hb g _ (by rw [h1]; rfl) h3, h4⟩

/-- one file turns: its cells alone -/
theorem DiskAt.upd {D : Nat} {S : Nat → Prop} {st : DS} {L : List FB} {M : Nat} {kv : Value} {w w' : World} (h : DiskAt D S st L M kv w) {i : Nat} (hi : i < L.length) (x : FB) (hnm : x.f.nm = L[i].f.nm) (hblk : x.blk = L[i].blk) (hsv : x.sv.ownBlock = L[i].sv.ownBlock)
    (hcell : w'.heap[x.blk]? = some (.cells #[x.sv, .int .i64 x.f.mark] 72)) (hown : Own w' 0 x.sv x.f.b) (hmark : x.f.mark ≤ x.f.b.length)
    (hoth : ∀ k o, k ≠ x.blk → w.heap[k]? = some o → w'.heap[k]? = some o) (hlen : x.f.b.length ≤ L[i].f.b.length) :
    DiskAt D S { st with fs := st.fs.set i x.f } (L.set i x) M kv w' := by
  have hfi := h.file L[i] (List.getElem_mem hi)
  have hcl := hfi.cell
  rw [← hblk] at hcl
  have hLfs : L.length = st.fs.length := by rw [← h.fs, List.length_map]
  have hfsi : ∀ hi' : i < st.fs.length, st.fs[i] = L[i].f := fun hi' => by simp [← h.fs]
  have hDne : D ≠ x.blk := by rintro rfl; have := h.cell; rw [hcl] at this; simp at this
  have hmapne : M ≠ x.blk := by
    rintro rfl
    obtain ⟨es, clock, hb, _⟩ := h.map
    rw [hcl] at hb; simp at hb
  have hmapD : mapD (L.set i x) = mapD L := by
    unfold mapD
    congr 1
    apply List.ext_getElem?
    intro j
    simp only [List.getElem?_map, List.getElem?_set]
    by_cases hij : i = j
    · subst hij
      simp [hi, hnm, hblk]
    · simp [hij]
  have hnme : ∀ (j : Nat) (hj : j < L.length), i ≠ j → L[j].f.nm ≠ L[i].f.nm := by
    intro j hj hij e
    have hr := h.rise
    rw [← h.fs] at hr
    unfold Rise at hr
    rw [List.pairwise_map] at hr
    rcases Nat.lt_or_gt_of_ne hij with hlt | hlt
    · have := List.pairwise_iff_getElem.1 hr i j hi hj hlt
      rw [e, bb_irrefl] at this; cases this
    · have := List.pairwise_iff_getElem.1 hr j i hj hi hlt
      rw [e, bb_irrefl] at this; cases this
  have hmem : ∀ y ∈ L.set i x, y = x ∨ (y ∈ L ∧ Apart y L[i] ∧ Apart L[i] y) := by
    intro y hy
    obtain ⟨j, hj, rfl⟩ := List.mem_iff_getElem.1 hy
    rw [List.length_set] at hj
    by_cases hji : i = j
    · subst hji; left; simp
    · right
      rw [List.getElem_set_ne hji]
      have hn := hnme j hj hji
      exact ⟨List.getElem_mem hj, h.sep _ (List.getElem_mem hj) _ (List.getElem_mem hi) hn, h.sep _ (List.getElem_mem hi) _ (List.getElem_mem hj) hn.symm⟩
  refine { h with fs := ?_, rise := ?_, cell := hoth _ _ hDne h.cell, map := ?_, file := ?_, sep := ?_, keep := ?_, keepS := ?_, names := ?_, many := ?_, all := ?_ }
  · rw [List.map_set, h.fs]
  · have hr := h.rise
    unfold Rise at hr ⊢
    rw [List.pairwise_iff_getElem] at hr ⊢
    intro a b ha hb hab
    rw [List.length_set] at ha hb
    have e : ∀ c (hc : c < st.fs.length), ((st.fs.set i x.f)[c]'(by rw [List.length_set]; exact hc)).nm = st.fs[c].nm := by
      intro c hc
      by_cases hci : i = c
      · subst hci; rw [List.getElem_set_self, hnm, hfsi hc]
      · rw [List.getElem_set_ne hci]
    rw [e a ha, e b hb]
    exact hr a b ha hb hab
  · rw [List.length_set, hmapD]
    exact ownsMap_blk h.map (fun o ho => hoth _ _ hmapne ho)
  · intro y hy
    rcases hmem y hy with rfl | ⟨hy1, hap, _⟩
    · exact ⟨hcell, hown, hmark, by rw [hblk]; exact hfi.sb, fun g hg => hfi.sg g (by rw [← hsv]; exact hg)⟩
    · have hf := h.file y hy1
      refine ⟨hoth _ _ (by rw [hblk]; exact hap.1) hf.cell, hf.own.blk (fun g o hg ho => hoth _ _ (fun e => ?_) ho), hf.mark, hf.sb, hf.sg⟩
      subst e
      rcases hf.own.form with ⟨h1, _⟩ | ⟨g', cap, cur, h1, h2, h3, _⟩
      · rw [h1] at hg; cases hg
      · rw [h1] at hg
        simp only [Value.ownBlock, Option.some.injEq] at hg
        rw [hg, hcl] at h3
        simp at h3
  · intro y hy z hz hn
    rcases hmem y hy with rfl | ⟨hy1, hap1, hap2⟩
    · rcases hmem z hz with rfl | ⟨hz1, hap3, hap4⟩
      · exact absurd rfl hn
      · exact ⟨by rw [hblk]; exact hap4.1, fun g hg => hap4.2 g (by rw [← hsv]; exact hg)⟩
    · rcases hmem z hz with rfl | ⟨hz1, hap3, hap4⟩
      · exact ⟨by rw [hblk]; exact hap1.1, fun g hg => by rw [hsv]; exact hap1.2 g hg⟩
      · exact h.sep y hy1 z hz1 hn
  · refine RdI.blk h.keep (fun g o hg ho => hoth _ _ ?_ ho)
    rintro rfl
    obtain ⟨_, cs, fz, h2⟩ := h.keepS _ hg
    rw [hcl] at h2; simp at h2
  · intro g hg
    obtain ⟨h1, cs, fz, h2⟩ := h.keepS g hg
    refine ⟨h1, cs, fz, hoth _ _ ?_ h2⟩
    rintro rfl
    rw [hcl] at h2; simp at h2
  · intro f hf
    rcases List.mem_or_eq_of_mem_set hf with hf | rfl
    · exact h.names f hf
    · rw [hnm, ← hfsi (by omega)]
      exact h.names _ (List.getElem_mem _)
  · simp only [List.length_set]; exact h.many
  · exact Nat.le_trans (allF_set_le _ _ _ (fun hi' => by rw [hfsi hi']; exact hlen)) h.all
end Go.Proofs.Ytadbcikabpbogaa
