/- Layer 7: a file is put, or taken away. -/
import Derived.Test.YtadbcikabpbogaaDskE
namespace Go.Proofs.Ytadbcikabpbogaa
open Go.RowKit Go.Maps
set_option maxRecDepth 100000
set_option linter.unusedVariables false
set_option linter.unusedSimpArgs false

theorem Apart.symm {x y : FB} (h : Apart x y) : Apart y x := ⟨h.1.symm, fun g hg hg' => h.2 g hg' hg⟩
theorem keep_turn {S : Nat → Prop} {w w' : World} {kv : Value} {l : List Int} (hk : RdI w kv l) (hS : ∀ g, kv.ownBlock = some g → S g ∧ ∃ cs fz, w.heap[g]? = some (.cells cs 3 fz))
    (ho : ∀ (g : Nat) (cs : Array Value) (fz : Nat × Nat), w.heap[g]? = some (Obj.cells cs 3 fz) → w'.heap[g]? = some (Obj.cells cs 3 fz)) : RdI w' kv l ∧ ∀ g, kv.ownBlock = some g → ∃ cs fz, w'.heap[g]? = some (.cells cs 3 fz) := by
  refine ⟨RdI.blk hk (fun g o hg ho' => ?_), fun g hg => ?_⟩
  · obtain ⟨_, cs, fz, h2⟩ := hS g hg
    rw [ho'] at h2
    cases h2
    exact ho _ _ _ ho'
  · obtain ⟨_, cs, fz, h2⟩ := hS g hg
    exact ⟨cs, fz, ho _ _ _ h2⟩
/-- the list of files turns -/
theorem DiskAt.turnL {D : Nat} {S S' : Nat → Prop} {st : DS} {L L' : List FB} {M : Nat} {kv : Value} {w w' : World} (h : DiskAt D S st L M kv w) (hS : ∀ k, S k → S' k)
    (hrise : Rise FB.nm L') (hcell : w'.heap[D]? = some (.cells #[.map (some M), .bool st.dead, .int .i64 st.left, kv] 67)) {n : Nat} (hmap : w'.ownsMap Try.prog 9 ptrElem M n (mapD L'))
    (hfile : ∀ x ∈ L', FileAt S' x w') (hsep : ∀ x ∈ L', ∀ y ∈ L', x.f.nm ≠ y.f.nm → Apart x y) (hint : ∀ (g : Nat) (cs : Array Value) (fz : Nat × Nat), w.heap[g]? = some (Obj.cells cs 3 fz) → w'.heap[g]? = some (Obj.cells cs 3 fz))
    (hnames : ∀ x ∈ L', x.f.nm.length ≤ 40) (hmany : L'.length ≤ 20) (hall : allF (L'.map FB.f) ≤ 4194304) : DiskAt D S' { st with fs := L'.map FB.f } L' M kv w' := by
  obtain ⟨hk1, hk2⟩ := keep_turn h.keep h.keepS hint
  have hm := ownsMap_exact hmap
  rw [mapD_size] at hm
  exact ⟨rfl, List.pairwise_map.2 hrise, hcell, hm, hfile, hsep, hk1, fun g hg => ⟨hS _ (h.keepS g hg).1, hk2 g hg⟩, hS _ h.sD, hS _ h.sM, fun f hf => by obtain ⟨x, hx, rfl⟩ := List.mem_map.1 hf; exact hnames x hx, by simpa using hmany, hall, h.left, h.keepB⟩
theorem rise_L {D : Nat} {S : Nat → Prop} {st : DS} {L : List FB} {M : Nat} {kv : Value} {w : World} (h : DiskAt D S st L M kv w) : Rise FB.nm L := rise_FB h.fs h.rise
/-- a file is put -/
theorem DiskAt.put {D : Nat} {S S' : Nat → Prop} {st : DS} {L L0 : List FB} {M : Nat} {kv : Value} {w w' : World} (h : DiskAt D S st L M kv w) (hS : ∀ k, S k → S' k) (x : FB)
    (hsub : ∀ y ∈ L0, y ∈ L) (hr0 : Rise FB.nm L0) (hap : ∀ y ∈ L0, y.f.nm ≠ x.f.nm → Apart x y) (hcell : w'.heap[D]? = some (.cells #[.map (some M), .bool st.dead, .int .i64 st.left, kv] 67)) {n : Nat} (hmap : w'.ownsMap Try.prog 9 ptrElem M n (mapD (putK FB.nm x L0)))
    (hx : FileAt S' x w') (hoth : ∀ y ∈ L0, y.f.nm ≠ x.f.nm → FileAt S' y w') (hint : ∀ (g : Nat) (cs : Array Value) (fz : Nat × Nat), w.heap[g]? = some (Obj.cells cs 3 fz) → w'.heap[g]? = some (Obj.cells cs 3 fz))
    (hnm : x.f.nm.length ≤ 40) (hmany : (putF x.f (L0.map FB.f)).length ≤ 20) (hall : allF (putF x.f (L0.map FB.f)) ≤ 4194304) : DiskAt D S' { st with fs := putF x.f (L0.map FB.f) } (putK FB.nm x L0) M kv w' := by
  have e : (putK FB.nm x L0).map FB.f = putF x.f (L0.map FB.f) := putK_map (key := DF.nm) FB.f x L0
  have hmem : ∀ y ∈ putK FB.nm x L0, y = x ∨ (y ∈ L0 ∧ y.f.nm ≠ x.f.nm) := fun y hy => mem_putK.1 hy
  have := h.turnL hS (hr0.put x) hcell hmap (fun y hy => by
    rcases hmem y hy with rfl | ⟨h1, h2⟩
    · exact hx
    · exact hoth y h1 h2) (fun y hy z hz hn => by
    rcases hmem y hy with rfl | ⟨h1, h2⟩
    · rcases hmem z hz with rfl | ⟨h3, h4⟩
      · exact absurd rfl hn
      · exact hap z h3 h4
    · rcases hmem z hz with rfl | ⟨h3, h4⟩
      · exact (hap y h1 h2).symm
      · exact h.sep y (hsub y h1) z (hsub z h3) hn) hint (fun y hy => by
    rcases hmem y hy with rfl | ⟨h1, h2⟩
    · exact hnm
    · exact h.names _ (by rw [← h.fs]; exact List.mem_map_of_mem (hsub y h1))) (by rw [← e, List.length_map] at hmany; exact hmany) (by rw [e]; exact hall)
  rwa [e] at this
/-- a file is taken away -/
theorem DiskAt.del {D : Nat} {S : Nat → Prop} {st : DS} {L : List FB} {M : Nat} {kv : Value} {w w' : World} (h : DiskAt D S st L M kv w) (nm : List UInt8) (hcell : w'.heap[D]? = some (.cells #[.map (some M), .bool st.dead, .int .i64 st.left, kv] 67)) {n : Nat} (hmap : w'.ownsMap Try.prog 9 ptrElem M n (mapD (delK FB.nm nm L)))
    (hoth : ∀ (g : Nat) (cs : Array Value) (t : TypeId) (fz : Nat × Nat), w.heap[g]? = some (Obj.cells cs t fz) → w'.heap[g]? = some (Obj.cells cs t fz)) : DiskAt D S { st with fs := delF nm st.fs } (delK FB.nm nm L) M kv w' := by
  have e : (delK FB.nm nm L).map FB.f = delF nm st.fs := by rw [← h.fs]; exact delK_map (key := DF.nm) FB.f nm L
  have hmem : ∀ y ∈ delK FB.nm nm L, y ∈ L := fun y hy => (mem_delK.1 hy).1
  have hle : (delK FB.nm nm L).length ≤ L.length := List.length_filter_le _ _
  have hL : L.length = st.fs.length := by rw [← h.fs, List.length_map]
  have hm := h.many
  have := h.turnL (S' := S) (fun _ h => h) ((rise_L h).del nm) hcell hmap (fun y hy => by
    have hf := h.file y (hmem y hy)
    exact ⟨hoth _ _ _ _ hf.cell, hf.own.blk (fun g o hg ho => by
      rcases hf.own.form with ⟨h1, _⟩ | ⟨g', cap, cur, h1, h2, h3, _⟩
      · rw [h1] at hg; cases hg
      · rw [h1] at hg
        simp only [Value.ownBlock, Option.some.injEq] at hg
        rw [← hg] at ho ⊢
        rw [h3] at ho
        cases ho
        exact hoth _ _ _ _ h3), hf.mark, hf.sb, hf.sg⟩) (fun y hy z hz hn => h.sep y (hmem y hy) z (hmem z hz) hn) (fun g cs fz hg => hoth _ _ _ _ hg)
    (fun y hy => h.names _ (by rw [← h.fs]; exact List.mem_map_of_mem (hmem y hy))) (by omega) (by
      rw [e]
      refine Nat.le_trans ?_ h.all
      exact allF_del nm st.fs)
  rwa [e] at this
end Go.Proofs.Ytadbcikabpbogaa
