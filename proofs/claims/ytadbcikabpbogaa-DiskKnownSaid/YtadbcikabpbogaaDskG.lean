/- Layer 7: what a work does: Sync, Cut, Remove, Rename. -/
import Derived.Test.YtadbcikabpbogaaDskF
import Derived.Maps.AppendAt
import Derived.StillTailTactics
namespace Go.Proofs.Ytadbcikabpbogaa
open Go.RowKit Go.Maps
set_option maxRecDepth 100000
set_option linter.unusedVariables false
set_option linter.unusedSimpArgs false

/-! plain words: one element turns -/
theorem putK_eq_map {α : Type} {key : α → List UInt8} {x x' : α} (hn : key x' = key x) : ∀ {fs : List α}, Rise key fs → x ∈ fs → putK key x' fs = fs.map fun y => if key y = key x' then x' else y
  | [], _, h => by simp at h
  | g :: r, hr, h => by
    have hc := List.pairwise_cons.1 hr
    by_cases hg : key g = key x'
    · have hrn : ∀ y ∈ r, key y ≠ key x' := fun y hy e => by
        have := hc.1 y hy
        rw [e, hg, bb_irrefl] at this; cases this
      have hd : delK key (key x') (g :: r) = r := by
        unfold delK
        rw [List.filter_cons, if_neg (by simp [hg])]
        exact delK_id hrn
      have hi : insK key x' r = x' :: r := by
        cases r with
        | nil => rfl
        | cons y r =>
          have : bytesBefore (key x') (key y) = true := by rw [← hg]; exact hc.1 y (by simp)
          simp [insK, this]
      unfold putK
      rw [hd, hi, List.map_cons, if_pos hg]
      congr 1
      exact ((List.map_congr_left (g := id) (fun y hy => by simp [hrn y hy])).trans (List.map_id r)).symm
    · have hx : x ∈ r := by
        rcases List.mem_cons.1 h with rfl | h
        · exact absurd hn.symm hg
        · exact h
      have ih := putK_eq_map hn hc.2 hx
      have hb : bytesBefore (key x') (key g) = false := by
        have h1 := hc.1 x hx
        rw [← hn] at h1
        cases h2 : bytesBefore (key x') (key g) with
        | false => rfl
        | true => have := bb_trans h1 h2; rw [bb_irrefl] at this; cases this
      have hd : delK key (key x') (g :: r) = g :: delK key (key x') r := by
        unfold delK
        rw [List.filter_cons, if_pos (by simpa using hg)]
      unfold putK at ih ⊢
      rw [hd, List.map_cons, if_neg hg, ← ih]
      simp [insK, hb]
theorem mapD_same {L : List FB} {x x' : FB} (hr : Rise FB.nm L) (hx : x ∈ L) (hn : x'.f.nm = x.f.nm) (hb : x'.blk = x.blk) : mapD (putK FB.nm x' L) = mapD L := by
  rw [putK_eq_map (x := x) hn hr hx]
  unfold mapD
  congr 1
  rw [List.map_map]
  refine List.map_congr_left (fun y hy => ?_)
  simp only [Function.comp]
  split
  · rename_i e
    have : y = x := by
      have h1 := getK_of_mem hr hy
      have h2 := getK_of_mem hr hx
      have e2 : FB.nm y = FB.nm x := e.trans hn
      rw [e2, h2] at h1
      exact (Option.some.inj h1).symm
    subst this
    rw [hn, hb]
  · rfl
def Up (S : Nat → Prop) (w : World) (k : Nat) : Prop := S k ∨ w.heap.size ≤ k
theorem Up.of {S : Nat → Prop} {w : World} {k : Nat} (h : S k) : Up S w k := .inl h
theorem own_ty {w : World} {N : Nat} {v : Value} {l : List UInt8} {g : Nat} (h : Own w N v l) (hg : v.ownBlock = some g) : ∃ cs fz, w.heap[g]? = some (.cells cs 5 fz) := by
  rcases h.form with ⟨h1, _⟩ | ⟨g', cap, cur, h1, h2, h3, _⟩
  · rw [h1] at hg; cases hg
  · rw [h1] at hg
    simp only [Value.ownBlock, Option.some.injEq] at hg
    subst hg
    exact ⟨_, _, h3⟩
/-- a file turns in place; its bytes may lie elsewhere now -/
theorem DiskAt.upd1 {D : Nat} {S S' : Nat → Prop} {st : DS} {L : List FB} {M : Nat} {kv : Value} {w w' : World} (h : DiskAt D S st L M kv w) {x x' : FB} (hx : x ∈ L) (hn : x'.f.nm = x.f.nm) (hb : x'.blk = x.blk) (hS : ∀ k, S k → S' k)
    (hO : ∀ (j : Nat) (o : Obj), j ≠ x.blk → (∀ g, x.sv.ownBlock = some g → j ≠ g) → w.heap[j]? = some o → w'.heap[j]? = some o) (hsv : ∀ g, x'.sv.ownBlock = some g → x.sv.ownBlock = some g ∨ w.heap.size ≤ g) (hfile : FileAt S' x' w') (hall : allF (putF x'.f st.fs) ≤ 4194304) :
    DiskAt D S' { st with fs := putF x'.f st.fs } (putK FB.nm x' L) M kv w' := by
  have hfx := h.file x hx
  have key : ∀ (j : Nat) (o : Obj), (∀ cs fz, o ≠ .cells cs 72 fz) → (∀ cs fz, o ≠ .cells cs 5 fz) → w.heap[j]? = some o → w'.heap[j]? = some o := by
    intro j o h1 h2 ho
    refine hO j o ?_ (fun g hg => ?_) ho
    · rintro rfl
      rw [hfx.cell] at ho
      exact h1 _ _ (Option.some.inj ho).symm
    · rintro rfl
      obtain ⟨cs, fz, h3⟩ := own_ty hfx.own hg
      rw [h3] at ho
      exact h2 _ _ (Option.some.inj ho).symm
  have hLL : L.map FB.f = st.fs := h.fs
  rw [← hLL]
  have hxf : x.f ∈ st.fs := by rw [← hLL]; exact List.mem_map_of_mem hx
  have hoth : ∀ y ∈ L, y.f.nm ≠ x'.f.nm → (y.blk ≠ x.blk ∧ ∀ g, y.sv.ownBlock = some g → x.sv.ownBlock ≠ some g) := fun y hy hne => h.sep y hy x hx (by rw [← hn]; exact hne)
  refine h.put hS x' (fun y hy => hy) (rise_L h) (fun y hy hne => ?_) (key _ _ (by simp) (by simp) h.cell) (n := L.length) ?_ hfile (fun y hy hne => ?_) (fun g cs fz hg => key _ _ (by simp) (by simp) hg) ?_ ?_ ?_
  · obtain ⟨h1, h2⟩ := hoth y hy hne
    refine ⟨by rw [hb]; exact h1.symm, fun g hg hg2 => ?_⟩
    rcases hsv g hg with h3 | h3
    · exact h2 g hg2 h3
    · obtain ⟨cs, fz, h4⟩ := own_ty (h.file y hy).own hg2
      have := (Array.getElem?_eq_some_iff.1 h4).1
      omega
  · rw [mapD_same (rise_L h) hx hn hb]
    refine ownsMap_blk h.map (fun o ho => ?_)
    obtain ⟨es, clock, hM, _⟩ := h.map
    rw [hM] at ho
    cases ho
    exact key _ _ (by simp) (by simp) hM
  · obtain ⟨h1, h2⟩ := hoth y hy hne
    have hf := h.file y hy
    refine ⟨hO _ _ h1 (fun g hg e => ?_) hf.cell, hf.own.blk (fun g o hg ho => hO _ _ (fun e => ?_) (fun g' hg' e => ?_) ho), hf.mark, hS _ hf.sb, fun g hg => hS _ (hf.sg g hg)⟩
    · subst e
      obtain ⟨cs, fz, h4⟩ := own_ty hfx.own hg
      rw [hf.cell] at h4
      simp at h4
    · subst e
      obtain ⟨cs, fz, h4⟩ := own_ty hf.own hg
      rw [hfx.cell] at h4
      simp at h4
    · subst e
      exact h2 _ hg hg'
  · rw [hn]; exact h.names _ hxf
  · rw [hLL, putF_len h.rise x'.f hn hxf]; exact h.many
  · rw [hLL]; exact hall
theorem Fr.drew {S : Nat → Prop} {a b : World} (h : Fr S a b) : Fr S a b.drew := ⟨h.os, h.tape, h.output, h.size, h.blk⟩
/-- what a work leaves -/
def Did (D : Nat) (S : Nat → Prop) (st : DS) (M : Nat) (kv : Value) (w w' : World) : Prop := (∃ L, DiskAt D (Up S w) st L M kv w') ∧ Fr S w w'
theorem sync_do {D : Nat} {S : Nat → Prop} {st : DS} {L : List FB} {M : Nat} {kv : Value} {w : World} (h : DiskAt D S st L M kv w) {x : FB} (hx : x ∈ L) {B : Nat} (hB : w.heap[B]? = some (.cells #[.pointer (some ⟨x.blk, 0, none⟩)] 70)) :
    Calls Try.prog 41 #[.pointer (some ⟨B, 0, none⟩)] w fun e w' => e = .returned (.tuple #[]) ∧ Did D S { st with fs := putF ⟨x.f.nm, x.f.b, x.f.b.length⟩ st.fs } M kv w w' := by
  have hf := h.file x hx
  have hxf : x.f ∈ st.fs := by rw [← h.fs]; exact List.mem_map_of_mem hx
  have hsz : x.f.b.length ≤ 4194304 := by
    have := allF_get h.rise hxf
    have := h.all
    omega
  obtain ⟨q, c, hq⟩ : ∃ q c, x.sv = .slice q x.f.b.length c := by
    rcases hf.own.form with ⟨h1, h2⟩ | ⟨g, cap, cur, h1, _⟩
    · exact ⟨none, 0, by rw [h1, h2]; rfl⟩
    · exact ⟨_, _, h1⟩
  have hcell := hf.cell
  rw [hq] at hcell
  have HC := Lib.hid (heap_set hcell 1 (.int .i64 (x.f.b.length : Int)))
  have HX : Hid (∀ w', w'.heap[x.blk]? = some (.cells #[x.sv, .int .i64 (x.f.b.length : Int)] 72) → (∀ (j : Nat) (o : Obj), j ≠ x.blk → w.heap[j]? = some o → w'.heap[j]? = some o) → DiskAt D (Up S w) { st with fs := putF ⟨x.f.nm, x.f.b, x.f.b.length⟩ st.fs } (putK FB.nm ⟨⟨x.f.nm, x.f.b, x.f.b.length⟩, x.blk, x.sv⟩ L) M kv w') := Lib.hid (fun w' h1 h2 => by
    refine h.upd1 hx (x' := ⟨⟨x.f.nm, x.f.b, x.f.b.length⟩, x.blk, x.sv⟩) rfl rfl (fun _ h => .inl h) (fun j o hj _ ho => h2 j o hj ho) (fun g hg => .inl hg) ⟨h1, ?_, Nat.le_refl _, .inl hf.sb, fun g hg => .inl (hf.sg g hg)⟩ ?_
    · refine hf.own.blk (fun g o hg ho => h2 _ _ ?_ ho)
      rintro rfl
      obtain ⟨cs, fz, h4⟩ := own_ty hf.own hg
      rw [hf.cell] at h4
      simp at h4
    · have h5 := putF_all h.rise (f := x.f) ⟨x.f.nm, x.f.b, x.f.b.length⟩ rfl hxf
      have := h.all
      simp only at h5 ⊢
      omega)
  have HS := Lib.hid hf.sb
  rw [hq] at HX
  obtain ⟨k_0, k_1, g_0, g_1, l_0⟩ := blk2 hcell
  obtain ⟨b_0, bg_0, bl_0⟩ := blk1 hB
  have HCL := Lib.hid hcell
  clear hf hxf hcell h hq hB hx
  generalize x.f.b.length = n at *
  generalize x.blk = xb at *
  go_enter Try.func41, Try.ntmps41
  go_wp2
  go_region
  go_wp2
  go_end0
  refine ⟨rfl, ⟨_, HX.out _ ?_ ?_⟩, ?_⟩
  · exact heap_set HCL.out 1 (.int .i64 (n : Int))
  · exact fun j o hj ho => heap_set_other ho ⟨xb, 1, none⟩ (.int .i64 (n : Int)) (fun e => hj e.symm)
  · exact (Fr.set w (S := S) (p := ⟨xb, 1, none⟩) HS.out (.int .i64 (n : Int))).drew
theorem DiskAt.own_slice {x : FB} {w : World} {N : Nat} (h : Own w N x.sv x.f.b) : ∃ (q : Option Addr) (c : Nat), x.sv = .slice q x.f.b.length c := by
  rcases h.form with ⟨h1, h2⟩ | ⟨g, cap, cur, h1, _⟩
  · exact ⟨none, 0, by rw [h1, h2]; rfl⟩
  · exact ⟨_, _, h1⟩
theorem turned_cells {w w' : World} {M : Nat} (h : w.mapTurned w' M) : ∀ (g : Nat) (cs : Array Value) (t : TypeId) (fz : Nat × Nat), w.heap[g]? = some (Obj.cells cs t fz) → w'.heap[g]? = some (Obj.cells cs t fz) := by
  obtain ⟨es, clock, es', clock', hb, rfl⟩ := h
  intro g cs t fz hg
  have hne : g ≠ M := by
    rintro rfl
    rw [hb] at hg
    cases hg
  rw [Go.ChangeMaps.heap_setBlock_other hb _ hne]
  exact hg
theorem strKey (s : ByteArray) (hs : s.size ≤ maxLen) : keyOf Try.prog 9 (.string s) = some (.string s.data.toList) := WideMaps.keyOf_string_mk Try.underlying9 hs
theorem remove_do {D : Nat} {S : Nat → Prop} {st : DS} {L : List FB} {M : Nat} {kv : Value} {w : World} (h : DiskAt D S st L M kv w) {B C : Nat} {nm : ByteArray} (hs : nm.size ≤ maxLen) (hB : w.heap[B]? = some (.cells #[.pointer (some ⟨D, 0, none⟩)] 24)) (hC : w.heap[C]? = some (.cells #[.string nm] 9)) :
    Calls Try.prog 66 #[.pointer (some ⟨B, 0, none⟩), .pointer (some ⟨C, 0, none⟩)] w fun e w' => e = .returned (.tuple #[]) ∧ Did D S { st with fs := delF nm.data.toList st.fs } M kv w w' := by
  have HM := Lib.hid h.map
  have HH := Lib.hid h
  have HK := Lib.hid (strKey nm hs)
  obtain ⟨k_0, k_1, k_2, k_3, g_0, g_1, g_2, g_3, l_0⟩ := blk4 h.cell
  obtain ⟨b_0, bg_0, bl_0⟩ := blk1 hB
  obtain ⟨c_0, cg_0, cl_0⟩ := blk1 hC
  clear h hB hC hs
  go_enter Try.func66, Try.ntmps66
  go_wp2
  go_still_tail 5, (by kernel_rfl)
  change wpList _ _ _ _ _ w.drew
  refine wpList_delete_own _ rfl _ _ 65 9 rfl 70 strK Try.underlying65 ptrElem M L.length (mapD L) rfl (ownsMap_blk (w' := w.drew) HM.out (fun o ho => ho)) _ _ rfl HK.out ?_
  intro w1 hown1 hturn1
  go_wp2
  go_end0
  refine ⟨rfl, ?_, (Fr.refl S w).drew.trans (Fr.turned hturn1 HH.out.sM) (fun _ h _ => h)⟩
  rw [mapD_del] at hown1
  have key := turned_cells hturn1
  exact ⟨_, (HH.out.del nm.data.toList (key _ _ _ _ HH.out.cell) hown1 key).mono (fun _ h => .inl h)⟩
theorem file_len {D : Nat} {S : Nat → Prop} {st : DS} {L : List FB} {M : Nat} {kv : Value} {w : World} (h : DiskAt D S st L M kv w) {x : FB} (hx : x ∈ L) : x.f ∈ st.fs ∧ x.f.b.length ≤ 4194304 := by
  have hxf : x.f ∈ st.fs := by rw [← h.fs]; exact List.mem_map_of_mem hx
  refine ⟨hxf, ?_⟩
  have := allF_get h.rise hxf
  have := h.all
  omega
theorem own_ne {D : Nat} {S : Nat → Prop} {st : DS} {L : List FB} {M : Nat} {kv : Value} {w : World} (h : DiskAt D S st L M kv w) {x : FB} (hx : x ∈ L) {g : Nat} (hg : x.sv.ownBlock = some g) : g ≠ x.blk := by
  rintro rfl
  obtain ⟨cs, fz, h4⟩ := own_ty (h.file x hx).own hg
  rw [(h.file x hx).cell] at h4
  simp at h4
theorem cut_do {D : Nat} {S : Nat → Prop} {st : DS} {L : List FB} {M : Nat} {kv : Value} {w : World} (h : DiskAt D S st L M kv w) {x : FB} (hx : x ∈ L) {n : Nat} (hn : n ≤ x.f.b.length) {B C : Nat} (hB : w.heap[B]? = some (.cells #[.pointer (some ⟨x.blk, 0, none⟩)] 70)) (hC : w.heap[C]? = some (.cells #[.int .i64 n] 3)) :
    Calls Try.prog 42 #[.pointer (some ⟨B, 0, none⟩), .pointer (some ⟨C, 0, none⟩)] w fun e w' => e = .returned (.tuple #[]) ∧ Did D S { st with fs := putF ⟨x.f.nm, x.f.b.take n, min x.f.mark n⟩ st.fs } M kv w w' := by
  have hf := h.file x hx
  obtain ⟨hxf, hsz⟩ := file_len h hx
  obtain ⟨q, c, hq⟩ := DiskAt.own_slice hf.own
  have hcell := hf.cell
  have hmk := hf.mark
  have hown := hf.own
  rw [hq] at hcell hown
  obtain ⟨_, hlc, hqn⟩ := hown.len
  have hBx : B ≠ x.blk := by rintro rfl; rw [hcell] at hB; simp at hB
  have hCx : C ≠ x.blk := by rintro rfl; rw [hcell] at hC; simp at hC
  have HX : Hid (∀ w', w'.heap[x.blk]? = some (.cells #[.slice q n c, .int .i64 (min x.f.mark n : Nat)] 72) → (∀ (j : Nat) (o : Obj), j ≠ x.blk → w.heap[j]? = some o → w'.heap[j]? = some o) → DiskAt D (Up S w) { st with fs := putF ⟨x.f.nm, x.f.b.take n, min x.f.mark n⟩ st.fs } (putK FB.nm ⟨⟨x.f.nm, x.f.b.take n, min x.f.mark n⟩, x.blk, .slice q n c⟩ L) M kv w') := Lib.hid (fun w' h1 h2 => by
    have hsl : (Value.slice q n c).ownBlock = x.sv.ownBlock := by rw [hq]; cases q <;> rfl
    refine h.upd1 hx (x' := ⟨⟨x.f.nm, x.f.b.take n, min x.f.mark n⟩, x.blk, .slice q n c⟩) rfl rfl (fun _ h => .inl h) (fun j o hj _ ho => h2 j o hj ho) (fun g hg => .inl (hsl ▸ hg)) ⟨h1, ?_, ?_, .inl hf.sb, fun g hg => .inl (hf.sg g (hsl ▸ hg))⟩ ?_
    · refine (Own.take hown n hn).blk (fun g o hg ho => h2 _ _ (own_ne h hx (hsl ▸ hg)) ho)
    · show min x.f.mark n ≤ (x.f.b.take n).length
      rw [List.length_take]; omega
    · have h5 := putF_all h.rise (f := x.f) ⟨x.f.nm, x.f.b.take n, min x.f.mark n⟩ rfl hxf
      have := h.all
      have : (x.f.b.take n).length ≤ x.f.b.length := by rw [List.length_take]; omega
      simp only at h5 ⊢
      omega)
  have HS := Lib.hid hf.sb
  obtain ⟨k_0, k_1, g_0, g_1, l_0⟩ := blk2 hcell
  obtain ⟨b_0, bg_0, bl_0⟩ := blk1 hB
  obtain ⟨c_0, cg_0, cl_0⟩ := blk1 hC
  have HCL := Lib.hid hcell
  clear hf hxf hcell h hq hx hown hB hC
  generalize x.f.b.length = m at *
  generalize x.f.mark = mk at *
  generalize x.blk = xb at *
  go_enter Try.func42, Try.ntmps42
  have hnc : n ≤ c := by omega
  go_wp2
  go_region
  go_wp2
  go_region
  go_wp2
  go_end0
  have hmin : (min (mk : Int) (n : Int)) = ((min mk n : Nat) : Int) := by omega
  rw [hmin]
  refine ⟨rfl, ⟨_, HX.out _ ?_ ?_⟩, ?_⟩
  · exact heap_set (heap_set HCL.out 0 (.slice q n c)) 1 (.int .i64 (min mk n : Nat))
  · exact fun j o hj ho => heap_set_other (heap_set_other ho ⟨xb, 0, none⟩ (.slice q n c) (fun e => hj e.symm)) ⟨xb, 1, none⟩ (.int .i64 (min mk n : Nat)) (fun e => hj e.symm)
  · exact ((Fr.set w (S := S) (p := ⟨xb, 0, none⟩) HS.out (.slice q n c)).trans (Fr.set _ (S := S) (p := ⟨xb, 1, none⟩) HS.out (.int .i64 (min mk n : Nat))) (fun _ h _ => h)).drew.drew
theorem rename_do {D : Nat} {S : Nat → Prop} {st : DS} {L : List FB} {M : Nat} {kv : Value} {w : World} (h : DiskAt D S st L M kv w) {x : FB} (hx : x ∈ L) {src dst : ByteArray} (hsrc : src.size ≤ maxLen) (hxn : x.f.nm = src.data.toList) (hdst : dst.size ≤ 40)
    {B C E F : Nat} (hB : w.heap[B]? = some (.cells #[.pointer (some ⟨D, 0, none⟩)] 24)) (hC : w.heap[C]? = some (.cells #[.string src] 9)) (hE : w.heap[E]? = some (.cells #[.pointer (some ⟨x.blk, 0, none⟩)] 70)) (hF : w.heap[F]? = some (.cells #[.string dst] 9)) :
    Calls Try.prog 43 #[.pointer (some ⟨B, 0, none⟩), .pointer (some ⟨C, 0, none⟩), .pointer (some ⟨E, 0, none⟩), .pointer (some ⟨F, 0, none⟩)] w fun e w' => e = .returned (.tuple #[]) ∧ Did D S { st with fs := putF ⟨dst.data.toList, x.f.b, x.f.mark⟩ (delF src.data.toList st.fs) } M kv w w' := by
  have HM := Lib.hid h.map
  have HH := Lib.hid h
  have HK := Lib.hid (strKey src hsrc)
  have hd2 : dst.size ≤ maxLen := by unfold maxLen; omega
  have HK2 := Lib.hid (strKey dst hd2)
  have hL20 : L.length ≤ 20 := by have := h.many; rw [← h.fs, List.length_map] at this; exact this
  have hdl : dst.data.toList.length = dst.size := Array.length_toList
  obtain ⟨hxf, hsz⟩ := file_len h hx
  have hf := h.file x hx
  have HX : Hid (∀ w', w'.ownsMap Try.prog 9 ptrElem M (L.length + 1) ((mapD (delK FB.nm src.data.toList L)).put (.string dst.data.toList) (.lit (.int .i64 x.blk))) → (∀ (g : Nat) (cs : Array Value) (t : TypeId) (fz : Nat × Nat), w.heap[g]? = some (Obj.cells cs t fz) → w'.heap[g]? = some (Obj.cells cs t fz)) → ∃ L', DiskAt D (Up S w) { st with fs := putF ⟨dst.data.toList, x.f.b, x.f.mark⟩ (delF src.data.toList st.fs) } L' M kv w') := Lib.hid (fun w' h1 h2 => by
    have hd : (delK FB.nm src.data.toList L).map FB.f = delF src.data.toList st.fs := by rw [← h.fs]; exact delK_map (key := DF.nm) FB.f src.data.toList L
    rw [mapD_put (delK FB.nm src.data.toList L) ⟨⟨dst.data.toList, x.f.b, x.f.mark⟩, x.blk, x.sv⟩] at h1
    have hfile : ∀ y ∈ L, FileAt (Up S w) y w' := fun y hy => by
      have hfy := h.file y hy
      refine ⟨h2 _ _ _ _ hfy.cell, hfy.own.blk (fun g o hg ho => ?_), hfy.mark, .inl hfy.sb, fun g hg => .inl (hfy.sg g hg)⟩
      obtain ⟨cs, fz, h4⟩ := own_ty hfy.own hg
      rw [h4] at ho
      cases ho
      exact h2 _ _ _ _ h4
    have hfx := hfile x hx
    have := h.put (S' := Up S w) (fun _ h => .inl h) ⟨⟨dst.data.toList, x.f.b, x.f.mark⟩, x.blk, x.sv⟩ (L0 := delK FB.nm src.data.toList L) (fun y hy => (mem_delK.1 hy).1) ((rise_L h).del _) (fun y hy _ => by
      obtain ⟨h3, h4⟩ := mem_delK.1 hy
      have := h.sep x hx y h3 (by rw [hxn]; exact fun e => h4 e.symm)
      exact this) (h2 _ _ _ _ h.cell) h1 ⟨hfx.cell, hfx.own, hfx.mark, hfx.sb, hfx.sg⟩ (fun y hy _ => hfile y (mem_delK.1 hy).1) (fun g cs fz hg => h2 _ _ _ _ hg) (by show dst.data.toList.length ≤ 40; rw [hdl]; exact hdst) ?_ ?_
    · rw [hd] at this
      exact ⟨_, this⟩
    · rw [hd]
      have h5 := len_get h.rise hxf
      rw [hxn] at h5
      have h6 : (delF dst.data.toList (delF src.data.toList st.fs)).length ≤ (delF src.data.toList st.fs).length := List.length_filter_le _ _
      have h7 := h.many
      show (insF _ (delF dst.data.toList (delF src.data.toList st.fs))).length ≤ 20
      rw [length_insK]
      omega
    · rw [hd]
      have h5 := allF_get h.rise hxf
      rw [hxn] at h5
      have h6 := allF_del dst.data.toList (delF src.data.toList st.fs)
      have h7 := h.all
      show allF (insF _ (delF dst.data.toList (delF src.data.toList st.fs))) ≤ 4194304
      rw [allF_ins]
      show x.f.b.length + _ ≤ _
      omega)
  have HB := Lib.hid hB
  have HE := Lib.hid hE
  have HF := Lib.hid hF
  obtain ⟨k_0, k_1, k_2, k_3, g_0, g_1, g_2, g_3, l_0⟩ := blk4 h.cell
  obtain ⟨b_0, bg_0, bl_0⟩ := blk1 hB
  obtain ⟨c_0, cg_0, cl_0⟩ := blk1 hC
  clear h hB hC hE hF hx hf hxf hxn
  go_enter Try.func43, Try.ntmps43
  go_wp2
  go_still_tail 5, (by kernel_rfl)
  change wpList _ _ _ _ _ w.drew
  refine wpList_delete_own _ rfl _ _ 65 9 rfl 70 strK Try.underlying65 ptrElem M L.length (mapD L) rfl (ownsMap_blk (w' := w.drew) HM.out (fun o ho => ho)) _ _ rfl HK.out ?_
  intro w1 hown1 hturn1
  have hd1 : w1.heap[D]? = _ := turned_cells hturn1 _ _ _ _ HH.out.cell
  have hb1 : w1.heap[B]? = _ := turned_cells hturn1 _ _ _ _ HB.out
  have he1 : w1.heap[E]? = _ := turned_cells hturn1 _ _ _ _ HE.out
  have hf1 : w1.heap[F]? = _ := turned_cells hturn1 _ _ _ _ HF.out
  clear k_0 k_1 k_2 k_3 g_0 g_1 g_2 g_3 l_0 b_0 bg_0 bl_0 c_0 cg_0 cl_0
  have HD1 := Lib.hid hturn1
  have HO1 := Lib.hid hown1
  clear hturn1 hown1
  obtain ⟨k_0, k_1, k_2, k_3, g_0, g_1, g_2, g_3, l_0⟩ := blk4 hd1
  obtain ⟨b_0, bg_0, bl_0⟩ := blk1 hb1
  obtain ⟨e_0, eg_0, el_0⟩ := blk1 he1
  obtain ⟨f_0, fg_0, fl_0⟩ := blk1 hf1
  clear hd1 hb1 he1 hf1
  go_wp2
  go_still_tail 6, (by kernel_rfl)
  change wpList _ _ _ _ _ w1.drew
  refine wpList_mapUpdate_in _ rfl _ _ _ 65 rfl 9 70 strK Try.underlying65 ptrElem M L.length _ rfl (ownsMap_blk (w' := w1.drew) HO1.out (fun o ho => ho)) (by unfold maxLen; omega) _ _ _ rfl rfl HK2.out _ [] (ptrElem_blk _) ?_
  intro w2 hown2 hturn2
  go_wp2
  go_end0
  refine ⟨rfl, HX.out _ ?_ (fun g cs t fz hg => turned_cells hturn2 _ _ _ _ (turned_cells HD1.out _ _ _ _ hg)), ((Fr.refl S w).drew.trans (Fr.turned HD1.out HH.out.sM) (fun _ h _ => h)).drew.trans (Fr.turned hturn2 HH.out.sM) (fun _ h _ => h)⟩
  rw [← mapD_del]
  exact hown2
end Go.Proofs.Ytadbcikabpbogaa
