/- Layer 7: what a work does: Append. -/
import Derived.Test.YtadbcikabpbogaaDskG
import Derived.Deep.RegionLaw
namespace Go.Proofs.Ytadbcikabpbogaa
open Go.RowKit Go.Maps
set_option maxRecDepth 100000
set_option linter.unusedVariables false
set_option linter.unusedSimpArgs false

/-- append(s, x...): where the new slice lies -/
theorem run_app {W : World} {N : Nat} (hN : N ≤ W.heap.size) (ty : TypeId) {v y : Value} (xs l : List UInt8) (hown : Own W N v xs) (hrd : Rd W y l) (hlen : xs.length + l.length ≤ 140737488355328) :
    ∃ v' w', (Builtin.append_ #[30, 30] ty #[v, y]).run Try.prog W = .ok v' w' ∧ Own w' N v' (xs ++ l) ∧ W.grownBy w' v.ownBlock ∧ (v'.ownBlock = v.ownBlock ∨ v'.ownBlock = some W.heap.size) := by
  obtain ⟨i0, hi, hz0, hz1, hz2⟩ := info_parts info5
  rcases hrd with ⟨rfl, q, c, rfl, hc1, hc2⟩ | ⟨blk, off, cap, rfl, h2, h3, h4, h5⟩
  · cases q with
    | some q =>
      obtain ⟨v', w', hr, h6, h7, _, h8⟩ := run_append_own_at (P := Try.prog) W N 30 ty 5 i0 (.int .u8 0) 1 1 Try.underlying30 hi hz0 hz1 hz2 rfl (by decide) v _ _ hown q 0 c [] (by simp) (fun j u hj => by simp at hj) (fun u hu => by simp at hu) (by rw [nums_length]; unfold maxLen; omega) (by rw [nums_length]; omega) hN
      exact ⟨v', w', hr, by rw [List.append_nil]; simpa [Own] using h6, h7, h8⟩
    | none =>
    obtain rfl : c = 0 := hc2 rfl
    exact ⟨v, W, run_append_owned_none (P := Try.prog) (w := W) N 30 ty 5 i0 1 Try.underlying30 hi v _ _ hown, by rw [List.append_nil]; exact hown, grownBy_refl _ _, .inl rfl⟩
  · obtain ⟨v', w', hr, h6, h7, _, h8⟩ := run_append_own_at (P := Try.prog) W N 30 ty 5 i0 (.int .u8 0) 1 1 Try.underlying30 hi hz0 hz1 hz2 rfl (by decide) v _ _ hown ⟨blk, off, none⟩ l.length cap ((nums l).map (Value.int .u8)) (by simp [nums_length])
      (fun j u hj => by
        rw [Addr.add_lit]
        have hj' : j < l.length := by
          have := (List.getElem?_eq_some_iff.1 hj).1
          simpa [nums_length] using this
        rw [h5 j hj']
        simp only [nums, List.map_map, List.getElem?_map, List.getElem?_eq_getElem hj', Option.map_some] at hj
        exact hj) (fun u hu => by obtain ⟨q, _, rfl⟩ := List.mem_map.1 hu; rfl) (by rw [nums_length]; unfold maxLen; omega) (by rw [nums_length]; omega) hN
    refine ⟨v', w', hr, ?_, h7, h8⟩
    unfold Own
    rw [nums_append, List.map_append, List.length_append, nums_length l]
    exact h6
theorem step_app {ops : Array Oper} {o : Oper} {a : Act} {W : World} {K : Act → World → Prop} {Q : Exit → Act → World → Prop} {E : Prop} (hgd : o.guard = none) (s x : Operand) (ho : o.op = .call { callee := .builtin .append, args := #[s, x], argTypes := #[30, 30] })
    (N : Nat) (hN : N ≤ W.heap.size) {v y : Value} (xs l : List UInt8) (hs : a.eval s = v) (hx : a.eval x = y) (hown : Own W N v xs) (hrd : Rd W y l) (hlen : xs.length + l.length ≤ 140737488355328)
    (h : ∀ q n c w', Own w' N (.slice q n c) (xs ++ l) → W.grownBy w' v.ownBlock → ((Value.slice q n c).ownBlock = v.ownBlock ∨ (Value.slice q n c).ownBlock = some W.heap.size) → K (a.put o.dst (.slice q n c)) w') :
    if Region.wanted o (yielded ops a.tmps) = true then Oper.wp Try.prog o a W K Q else E := by
  rw [if_pos (by simp [Region.wanted, hgd])]
  obtain ⟨v', w', hr, h1, h2, h3⟩ := run_app hN o.type xs l hown hrd hlen
  obtain ⟨q, n, c, rfl⟩ := h1.rd.slice'
  unfold Oper.wp execOp
  simp only [ho, resolve, invoke, builtin, Sem.run_bind, Sem.run_pure, Result.andThen_ok, List.map_toArray, List.map_cons, List.map_nil, hs, hx, hr]
  exact h q n c w' h1 h2 h3
theorem Rd.fr {X : Nat → Prop} {w w' : World} (hf : Fr X w w') {v : Value} {l : List UInt8} (h : Rd w v l) (hx : ∀ g, v.ownBlock = some g → l ≠ [] → ¬ X g) : Rd w' v l := by
  rcases h with h | ⟨blk, off, cap, rfl, h2, h3, h4, h5⟩
  · exact .inl h
  · by_cases hl : l = []
    · subst hl
      exact .inl ⟨rfl, _, cap, rfl, h3, by simp⟩
    have hb := hf.blk blk _ (Array.getElem?_eq_getElem h4) (hx blk rfl hl)
    refine .inr ⟨blk, off, cap, rfl, h2, h3, Nat.lt_of_lt_of_le h4 hf.size, fun j hj => ?_⟩
    rw [← h5 j hj]
    exact World.cell?_of_block (by rw [hb, Array.getElem?_eq_getElem h4])
/-- a file is new -/
theorem DiskAt.add {D : Nat} {S : Nat → Prop} {st : DS} {L : List FB} {M : Nat} {kv : Value} {w w' : World} (h : DiskAt D S st L M kv w) (x : FB) (hnew : getK FB.nm x.f.nm L = none) (hblk : w.heap.size ≤ x.blk) (hsv : ∀ g, x.sv.ownBlock = some g → w.heap.size ≤ g)
    {n : Nat} (hmap : w'.ownsMap Try.prog 9 ptrElem M n ((mapD L).put (.string x.f.nm) (.lit (.int .i64 x.blk)))) (hO : ∀ (g : Nat) (cs : Array Value) (t : TypeId) (fz : Nat × Nat), t ≠ 70 → w.heap[g]? = some (Obj.cells cs t fz) → w'.heap[g]? = some (Obj.cells cs t fz))
    (hcell : w'.heap[x.blk]? = some (.cells #[x.sv, .int .i64 x.f.mark] 72)) (hown : Own w' 0 x.sv x.f.b) (hmark : x.f.mark ≤ x.f.b.length) (hnm : x.f.nm.length ≤ 40) (hmany : st.fs.length < 20) (hall : allF st.fs + x.f.b.length ≤ 4194304) :
    DiskAt D (Up S w) { st with fs := putF x.f st.fs } (putK FB.nm x L) M kv w' := by
  rw [mapD_put] at hmap
  have hfile : ∀ y ∈ L, FileAt (Up S w) y w' := fun y hy => by
    have hfy := h.file y hy
    refine ⟨hO _ _ _ _ (by decide) hfy.cell, hfy.own.blk (fun g o hg ho => ?_), hfy.mark, .inl hfy.sb, fun g hg => .inl (hfy.sg g hg)⟩
    obtain ⟨cs, fz, h4⟩ := own_ty hfy.own hg
    rw [h4] at ho
    cases ho
    exact hO _ _ _ _ (by decide) h4
  have := h.put (S' := Up S w) (L0 := L) (fun _ h => .inl h) x (fun y hy => hy) (rise_L h) (fun y hy _ => ?_) (hO _ _ _ _ (by decide) h.cell) hmap ⟨hcell, hown, hmark, .inr hblk, fun g hg => .inr (hsv g hg)⟩ (fun y hy _ => hfile y hy) ?_ hnm ?_ ?_
  · rwa [h.fs] at this
  · have hfy := h.file y hy
    refine ⟨?_, fun g hg hg2 => ?_⟩
    · have := (Array.getElem?_eq_some_iff.1 hfy.cell).1
      omega
    · obtain ⟨cs, fz, h4⟩ := own_ty hfy.own hg2
      have := (Array.getElem?_eq_some_iff.1 h4).1
      have := hsv g hg
      omega
  · exact fun g cs fz hg => hO _ _ _ _ (by decide) hg
  · rw [h.fs]
    have h6 : (delF x.f.nm st.fs).length ≤ st.fs.length := List.length_filter_le _ _
    show (insF _ (delF x.f.nm st.fs)).length ≤ 20
    rw [length_insK]
    omega
  · rw [h.fs]
    have h6 := allF_del x.f.nm st.fs
    show allF (insF _ (delF x.f.nm st.fs)) ≤ 4194304
    rw [allF_ins]
    omega
/-- a file has more behind it -/
theorem append_old {D : Nat} {S : Nat → Prop} {st : DS} {L : List FB} {M : Nat} {kv : Value} {w : World} (h : DiskAt D S st L M kv w) {x : FB} (hx : x ∈ L) {bv : Value} {l : List UInt8} (hl : Rd w bv l) (hall : allF st.fs + l.length ≤ 4194304)
    {B G : Nat} (hB : w.heap[B]? = some (.cells #[.pointer (some ⟨x.blk, 0, none⟩)] 70)) (hG : w.heap[G]? = some (.cells #[bv] 30)) (cv ev : Value) :
    Calls Try.prog 38 #[.pointer (some ⟨B, 0, none⟩), cv, ev, .pointer (some ⟨G, 0, none⟩)] w fun e w' => e = .returned (.tuple #[]) ∧ Did D S { st with fs := putF ⟨x.f.nm, x.f.b ++ l, x.f.mark⟩ st.fs } M kv w w' := by
  have hf := h.file x hx
  obtain ⟨hxf, hsz⟩ := file_len h hx
  have hcell := hf.cell
  have HX : Hid (∀ v' w', w'.heap[x.blk]? = some (.cells #[v', .int .i64 x.f.mark] 72) → Own w' 0 v' (x.f.b ++ l) → (v'.ownBlock = x.sv.ownBlock ∨ v'.ownBlock = some w.heap.size) → (∀ (j : Nat) (o : Obj), j ≠ x.blk → (∀ g, x.sv.ownBlock = some g → j ≠ g) → w.heap[j]? = some o → w'.heap[j]? = some o) → DiskAt D (Up S w) { st with fs := putF ⟨x.f.nm, x.f.b ++ l, x.f.mark⟩ st.fs } (putK FB.nm ⟨⟨x.f.nm, x.f.b ++ l, x.f.mark⟩, x.blk, v'⟩ L) M kv w') := Lib.hid (fun v' w' h1 h2 h3 h4 => by
    refine h.upd1 hx (x' := ⟨⟨x.f.nm, x.f.b ++ l, x.f.mark⟩, x.blk, v'⟩) rfl rfl (fun _ h => .inl h) h4 (fun g hg => ?_) ⟨h1, h2, ?_, .inl hf.sb, fun g hg => ?_⟩ ?_
    · rcases h3 with h3 | h3
      · exact .inl (h3 ▸ hg)
      · rw [h3] at hg; cases hg; exact .inr (Nat.le_refl _)
    · show x.f.mark ≤ (x.f.b ++ l).length
      have := hf.mark
      rw [List.length_append]; omega
    · rcases h3 with h3 | h3
      · exact .inl (hf.sg g (h3 ▸ hg))
      · rw [show v'.ownBlock = some g from hg] at h3; cases h3; exact .inr (Nat.le_refl _)
    · have h5 := putF_all h.rise (f := x.f) ⟨x.f.nm, x.f.b ++ l, x.f.mark⟩ rfl hxf
      simp only [List.length_append] at h5 ⊢
      omega)
  have HS := Lib.hid hf.sb
  have HSG := Lib.hid hf.sg
  have HNE := Lib.hid (fun g => own_ne h hx (g := g))
  have HOW := Lib.hid hf.own
  have HCL := Lib.hid hcell
  have HLT : Hid (x.f.b.length + l.length ≤ 140737488355328) := Lib.hid (by
    have := allF_get h.rise hxf
    omega)
  have HR := Lib.hid hl
  have HBS : Hid (∀ g, x.sv.ownBlock = some g → g ≠ B) := Lib.hid (fun g hg => by
    rintro rfl
    obtain ⟨cs, fz, h4⟩ := own_ty hf.own hg
    rw [hB] at h4
    simp at h4)
  have HBL := Lib.hid hB
  have HBN := Lib.hid (show B ≠ x.blk by rintro rfl; rw [hcell] at hB; simp at hB)
  obtain ⟨k_0, k_1, g_0, g_1, l_0⟩ := blk2 hcell
  obtain ⟨b_0, bg_0, bl_0⟩ := blk1 hB
  obtain ⟨c_0, cg_0, cl_0⟩ := blk1 hG
  clear hf hxf hcell h hx hB hG hl hall
  generalize x.sv = sv at *
  generalize x.blk = xb at *
  go_enter Try.func38, Try.ntmps38
  go_wp2
  go_region_law (
    refine step_app rfl _ _ rfl 0 (Nat.zero_le _) x.f.b l rfl rfl HOW.out.drew (HR.out.gr (Gr.refl w).drew) HLT.out ?_
    intro vq vn vc w1 hown hgrew hat
    have HW := Lib.hid hown
    have HG := Lib.hid hgrew
    have HA := Lib.hid hat
    have hb1 : w1.heap[B]? = some (.cells #[.pointer (some ⟨xb, 0, none⟩)] 70) := by
      rw [hgrew.block B bl_0 (fun e => HBS.out B e.symm rfl)]
      exact HBL.out
    have hc1 : w1.heap[xb]? = some (.cells #[sv, .int .i64 x.f.mark] 72) := by
      rw [hgrew.block xb l_0 (fun e => HNE.out xb e.symm rfl)]
      exact HCL.out
    have HC1 := Lib.hid hc1
    obtain ⟨n_0, n_1, ng_0, ng_1, nl_1⟩ := blk2 hc1
    obtain ⟨m_0, mg_0, ml_0⟩ := blk1 hb1
    clear hgrew hc1 hb1 hown hat)
  all_goals
    go_wp2
    go_end0
    refine ⟨rfl, ⟨_, HX.out (.slice vq vn vc) _ (heap_set HC1.out 0 (.slice vq vn vc)) (HW.out.blk (fun g o hg ho => heap_set_other ho ⟨xb, 0, none⟩ (.slice vq vn vc) (fun e => ?_))) HA.out (fun j o hj hg ho => heap_set_other ?_ ⟨xb, 0, none⟩ (.slice vq vn vc) (fun e => hj e.symm))⟩, ((Fr.refl S w).drew.trans (Fr.grown HG.out (fun k e => HSG.out k e)) (fun _ h _ => h)).trans (Fr.set w1 (S := S) (p := ⟨xb, 0, none⟩) HS.out (.slice vq vn vc)) (fun _ h _ => h)⟩
    · rcases HA.out with h1 | h1
      · exact HNE.out g (h1.symm.trans hg) e.symm
      · rw [hg] at h1
        have h2 : g = w.heap.size := Option.some.inj h1
        have e' : xb = g := e
        omega
    · rw [HG.out.block j (Array.getElem?_eq_some_iff.1 ho).1 (fun e => hg j e.symm rfl)]
      exact ho
end Go.Proofs.Ytadbcikabpbogaa
