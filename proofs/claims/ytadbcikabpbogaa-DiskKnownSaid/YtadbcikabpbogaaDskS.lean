/- Layer 7: Fail; a disk that is bounded by the heap. -/
import Derived.Test.YtadbcikabpbogaaDskR
namespace Go.Proofs.Ytadbcikabpbogaa
open Go.RowKit Go.Maps
set_option maxRecDepth 100000
set_option linter.unusedVariables false
set_option linter.unusedSimpArgs false

/-- what it fails by turns -/
theorem DiskAt.setK {D : Nat} {S S' : Nat → Prop} {st : DS} {L : List FB} {M : Nat} {kv kv' : Value} {w w' : World} (h : DiskAt D S st L M kv w) (hS : ∀ k, S k → S' k) (l : Int) (hl : -1 ≤ l ∧ l ≤ 9223372036854775807) (kl : List Int) (hkb : ∀ x ∈ kl, -9223372036854775808 ≤ x ∧ x ≤ 9223372036854775807)
    (hc : w'.heap[D]? = some (.cells #[.map (some M), .bool st.dead, .int .i64 l, kv'] 67)) (hk : RdI w' kv' kl) (hks : ∀ g, kv'.ownBlock = some g → S' g ∧ ∃ cs fz, w'.heap[g]? = some (.cells cs 3 fz))
    (ho : ∀ j o, j ≠ D → w.heap[j]? = some o → w'.heap[j]? = some o) : DiskAt D S' { st with left := l, keep := kl } L M kv' w' := by
  have hcl := h.cell
  have key : ∀ {j : Nat} {cs : Array Value} {t : TypeId} {fz : Nat × Nat}, w.heap[j]? = some (.cells cs t fz) → t ≠ 67 → w'.heap[j]? = some (.cells cs t fz) := fun {j cs t fz} hj ht => ho _ _ (by
    rintro rfl
    rw [hcl] at hj
    simp only [Option.some.injEq, Obj.cells.injEq] at hj
    exact ht hj.2.1.symm) hj
  refine { h with cell := hc, map := ownsMap_blk h.map (fun o ho' => ho _ _ ?_ ho'), file := fun x hx => ?_, keep := hk, keepS := hks, left := hl, keepB := hkb, sD := hS _ h.sD, sM := hS _ h.sM }
  · rintro rfl
    obtain ⟨es, clock, hb, _⟩ := h.map
    rw [hcl] at hb; simp at hb
  · have hf := h.file x hx
    refine ⟨key hf.cell (by decide), ⟨hf.own.1, ?_⟩, hf.mark, hS _ hf.sb, fun g hg => hS _ (hf.sg g hg)⟩
    rcases hf.own.2 with h1 | ⟨g, cap, cur, h1, h2, h3, h4⟩
    · exact .inl h1
    · exact .inr ⟨g, cap, cur, h1, h2, key h3 (by decide), h4⟩
/-- a disk lies in what is there -/
theorem DiskAt.bound {D : Nat} {S : Nat → Prop} {st : DS} {L : List FB} {M : Nat} {kv : Value} {w : World} (h : DiskAt D S st L M kv w) : DiskAt D (fun k => S k ∧ k < w.heap.size) st L M kv w :=
  { h with
    file := fun x hx => { h.file x hx with
      sb := ⟨(h.file x hx).sb, (Array.getElem?_eq_some_iff.1 (h.file x hx).cell).1⟩
      sg := fun g hg => ⟨(h.file x hx).sg g hg, by
        obtain ⟨cs, fz, h4⟩ := own_ty (h.file x hx).own hg
        exact (Array.getElem?_eq_some_iff.1 h4).1⟩ }
    keepS := fun g hg => by
      obtain ⟨h1, cs, fz, h2⟩ := h.keepS g hg
      exact ⟨⟨h1, (Array.getElem?_eq_some_iff.1 h2).1⟩, cs, fz, h2⟩
    sD := ⟨h.sD, (Array.getElem?_eq_some_iff.1 h.cell).1⟩
    sM := ⟨h.sM, by
      obtain ⟨es, clock, hb, _⟩ := h.map
      exact (Array.getElem?_eq_some_iff.1 hb).1⟩ }
theorem fail_any {D : Nat} {S : Nat → Prop} {st : DS} {L : List FB} {M : Nat} {kv : Value} {w : World} (h : DiskAt D S st L M kv w) (n : Int) (hn : -9223372036854775808 ≤ n ∧ n ≤ 9223372036854775807) {ka : Value} {kl : List Int} (hk : RdI w ka kl) (hkl : kl.length * 8 ≤ 140737488355328) (hkb : ∀ x ∈ kl, -9223372036854775808 ≤ x ∧ x ≤ 9223372036854775807) :
    Calls Try.prog 13 #[.pointer (some ⟨D, 0, none⟩), .int .i64 n, ka] w fun e w' => e = .returned (.tuple #[]) ∧ (∃ kv', DiskAt D (Up S w) (st.fail n kl) L M kv' w') ∧ Fr S w w' := by
  have HA := Lib.hid (ask_any h.cell)
  have HH := Lib.hid h
  have HCl := Lib.hid (cloneI_any hk hkl)
  have HKB := Lib.hid hkb
  obtain ⟨aq, ac, rfl⟩ := hk.form
  clear h hk hkl hkb
  by_cases hd : st.dead = true
  · have hr : st.fail n kl = st := by unfold DS.fail; rw [if_pos hd]
    rw [hr]
    simp only [hd, if_true] at HA
    clear hr hd
    go_enter Try.func13, Try.ntmps13
    go_wp2_with (go_at_call 35; refine HA.out.mono ?_; rintro e w1 ⟨rfl, rfl⟩)
    go_end0
    exact ⟨rfl, ⟨kv, HH.out.mono (fun _ h => .inl h)⟩, Fr.refl _ _⟩
  · have hr : st.fail n kl = { st with left := max n (-1), keep := kl } := by unfold DS.fail; rw [if_neg hd]
    rw [hr]
    simp only [hd, Bool.false_eq_true, if_false] at HA
    clear hr hd
    go_enter Try.func13, Try.ntmps13
    go_wp2_with (first | (go_at_call 35; refine HA.out.mono ?_; rintro e w1 ⟨rfl, rfl⟩) | fail)
    refine HCl.out.mono ?_
    rintro e w1 ⟨q1, n1, c1, rfl, hr1, hs1, hg1⟩
    have HR1 := Lib.hid hr1
    have HS1 := Lib.hid hs1
    have HG1 := Lib.hid hg1
    have HC1 := Lib.hid (HH.out.gr hg1).cell
    have HC2 := Lib.hid (heap_set (heap_set HC1.out 2 (.int .i64 (max n (-1)))) 3 (.slice q1 n1 c1))
    obtain ⟨k_0, k_1, k_2, k_3, g_0, g_1, g_2, g_3, l_0⟩ := blk4 HC1.out
    clear hr1 hs1 hg1
    go_wp2
    go_end0
    have hO : ∀ j o, j ≠ D → w1.heap[j]? = some o → ((w1.setCell ⟨D, 2, none⟩ (.int .i64 (max n (-1)))).setCell ⟨D, 3, none⟩ (.slice q1 n1 c1)).heap[j]? = some o := fun j o hj ho => heap_set_other (heap_set_other ho _ _ (fun e => hj e.symm)) _ _ (fun e => hj e.symm)
    refine ⟨rfl, ⟨_, (HH.out.gr HG1.out).setK (S' := Up S w) (fun _ h => .inl h) (max n (-1)) (by omega) kl HKB.out (by simpa using HC2.out) (HR1.out.blk (fun g o hg ho => hO _ _ (fun e => ?_) ho)) (fun g hg => ?_) hO⟩, ?_⟩
    · subst e
      obtain ⟨_, cs, fz, h3⟩ := HS1.out _ hg
      rw [HC1.out] at h3
      simp at h3
    · obtain ⟨h1, cs, fz, h3⟩ := HS1.out _ hg
      exact ⟨.inr h1, cs, fz, hO _ _ (fun e => by
        subst e
        rw [HC1.out] at h3
        simp at h3) h3⟩
    · exact (Fr.gr HG1.out S).trans (S' := S) ((Fr.set w1 (S := S) (p := ⟨D, 2, none⟩) HH.out.sD _).trans (Fr.set _ (S := S) (p := ⟨D, 3, none⟩) HH.out.sD _) (fun _ h _ => h)) (fun _ h _ => h)
end Go.Proofs.Ytadbcikabpbogaa
