/- What the rows stand on, part 38: TakB. Printed by bundle.py out of my texts. -/
import Derived.Test.YthgecojbggoniaaGreatDoorBe01
import Derived.Test.YthgecojbggoniaaGreatDoorBe17
import Derived.Test.YthgecojbggoniaaGreatDoorBe18
import Derived.Test.YthgecojbggoniaaGreatDoorBe24
import Derived.RegionTactic
import Derived.ChangeAlike
namespace Go.Proofs.YthgecojbggoniaaGreatDoor
open Go.RowKit
set_option maxRecDepth 100000
set_option linter.unusedVariables false
set_option linter.unusedSimpArgs false

theorem Fx.below {B N : Nat} {a b : World} (h : Fx B a b) (hB : N ≤ B) (hN : N ≤ a.heap.size) : Below N a b := by
  refine ⟨h.os, h.tape, h.output, h.size, fun k hk => ?_⟩
  have hka : k < a.heap.size := Nat.lt_of_lt_of_le hk hN
  rw [h.blk k a.heap[k] (Array.getElem?_eq_getElem hka) (by omega), Array.getElem?_eq_getElem hka]
/-- what is no array of the slice stays as it is behind an append -/
theorem OwnG.other {α : Type} {enc : α → List Value} {k : Nat} {e : TypeId} {W w' : World} {N : Nat} {v : Value} {l : List α} (h : OwnG e k enc W N v l) (hg : W.grownBy w' v.ownBlock) {b : Nat} {cs : Array Value} {t : TypeId} {f : Nat × Nat}
    (hb : W.heap[b]? = some (.cells cs t f)) (ht : t ≠ e) : w'.heap[b]? = some (.cells cs t f) := by
  have hlt := (Array.getElem?_eq_some_iff.1 hb).1
  rw [hg.block b hlt ?_, hb]
  intro hk
  rcases h.2 with ⟨rfl, _⟩ | ⟨g, cap, cur, rfl, h1, h2, _⟩
  · simp [Value.ownBlock] at hk
  · simp only [Value.ownBlock, Option.some.injEq] at hk
    subst hk
    rw [hb] at h2
    simp only [Option.some.injEq, Obj.cells.injEq] at h2
    exact ht h2.2.1
theorem Rd.of_blk {W w' : World} {v : Value} {l : List UInt8} (h : Rd W v l) (hk : ∀ g o n c, v = .slice (some ⟨g, o, none⟩) n c → w'.heap[g]? = W.heap[g]?) : Rd w' v l := by
  rcases h with h | ⟨blk, off, cap, h1, h2, h3, h4, h5⟩
  · exact .inl h
  · have hb := hk _ _ _ _ h1
    have h4' : blk < w'.heap.size := by
      rw [Array.getElem?_eq_getElem h4] at hb
      exact (Array.getElem?_eq_some_iff.1 hb).1
    refine .inr ⟨blk, off, cap, h1, h2, h3, h4', fun j hj => ?_⟩
    rw [← h5 j hj]
    exact World.cell?_of_block hb
/-- a reader stays behind an append to another type's slice -/
theorem Rdr.grown {α : Type} {enc : α → List Value} {k : Nat} {e : TypeId} {W w' : World} {N : Nat} {v : Value} {l : List α} {T : TypeId} {B : Nat} {s : St} (hr : Rdr T B s W) (h : OwnG e k enc W N v l) (hg : W.grownBy w' v.ownBlock)
    (hT : T ≠ e) (hu : 5 ≠ e) : Rdr T B s w' := by
  obtain ⟨⟨x, h1, h2⟩, h3⟩ := hr
  have h3 := h3 _ _ h1
  refine Rdr.mk' (h.other hg h1 hT) (h2.of_blk (fun g o n c e' => ?_)) (fun g o n c e' => ?_)
  · obtain ⟨cs, fz, h4⟩ := h3 g o n c e'
    rw [h.other hg h4 hu, h4]
  · obtain ⟨cs, fz, h4⟩ := h3 g o n c e'
    exact ⟨cs, fz, h.other hg h4 hu⟩
/-- and behind a store elsewhere that is no array of bytes -/
theorem Rdr.setX {T : TypeId} {B : Nat} {s : St} {w : World} (h : Rdr T B s w) {S i : Nat} {u : Value} {c : Array Value} {t : TypeId} {fz : Nat × Nat} (hS : w.heap[S]? = some (.cells c t fz)) (hne : S ≠ B) (ht : t ≠ 5) : Rdr T B s (w.setCell ⟨S, i, none⟩ u) := by
  obtain ⟨⟨v, h1, h2⟩, h3⟩ := h
  have h3 := h3 _ _ h1
  refine Rdr.mk' (heap_set_other h1 _ _ hne) (h2.of_blk (fun g o n k e => ?_)) (h3.set _ _ _)
  obtain ⟨cs, f, h4⟩ := h3 g o n k e
  have : S ≠ g := by rintro rfl; rw [hS] at h4; simp only [Option.some.injEq, Obj.cells.injEq] at h4; exact ht h4.2.1
  rw [heap_set_other h4 _ _ this, h4]
set_option maxHeartbeats 4000000 in
theorem ittChg_any {B X C N : Nat} {s : St} {w : World} {c0 c1 c2 c3 c4 c5 c6 c7 vl : Value} {l : List Chg}
    (hX : w.heap[X]? = some (.cells #[c0, c1, c2, c3, c4, c5, c6, c7, vl] 40))
    (hC : w.heap[C]? = some (.cells #[.pointer (some ⟨B, 0, none⟩)] 168))
    (hR : Rdr 170 B s w) (hown : OwnG 76 3 chgCells w N vl l) (hN : N ≤ w.heap.size) (hBN : N ≤ B) (hNX : N ≤ X)
    (hlen : s.1.length ≤ 140737488355320) (hl : (l.length + 1) * 32 ≤ 140737488355328) :
    Calls Tryz.prog 110 #[.pointer (some ⟨X, 0, none⟩), .pointer (some ⟨C, 0, none⟩)] w fun e w' => e = .returned (.tuple #[]) ∧ ∃ vl', w'.heap[X]? = some (.cells #[c0, c1, c2, c3, c4, c5, c6, c7, vl'] 40) ∧ OwnG 76 3 chgCells w' N vl' (l ++ [(opP.chg s).1])
      ∧ w'.heap[C]? = some (.cells #[.pointer (some ⟨B, 0, none⟩)] 168) ∧ Rdr 170 B (opP.chg s).2 w' ∧ Below N w w' := by
  have hl1 := nextN_length s
  have hl2 := nextF_length (nextN s)
  have hXB : X ≠ B := by rintro rfl; obtain ⟨⟨v, h1, _⟩, _⟩ := hR; rw [hX] at h1; simp at h1
  have hCB : C ≠ B := by rintro rfl; obtain ⟨⟨v, h1, _⟩, _⟩ := hR; rw [hC] at h1; simp at h1
  have hXC : X ≠ C := by rintro rfl; rw [hX] at hC; simp at hC
  obtain ⟨q, c, rfl⟩ := hown.slice
  have hx := heap_drew hX
  have hc := heap_drew hC
  obtain ⟨k_0, k_1, k_2, k_3, k_4, k_5, k_6, k_7, k_8, g_0, g_1, g_2, g_3, g_4, g_5, g_6, g_7, g_8, l_0⟩ := blk9 hx
  obtain ⟨j_0, jf_0, jl_0⟩ := blk1 hc
  have F1 := cellRuleF (B := B) (by exact hXB) k_8
  have F2 := cellRuleF (B := B) (by exact hCB) j_0
  clear k_0 k_1 k_2 k_3 k_4 k_5 k_6 k_7 k_8 g_0 g_1 g_2 g_3 g_4 g_5 g_6 g_7 g_8 j_0 jf_0 hx hc
  have HX := Lib.hid hX
  have HC := Lib.hid hC
  have HR := Lib.hid hR
  have HO := Lib.hid hown
  clear hX hC hR hown
  go_enter Tryz.func110, Tryz.ntmps110
  refine wp_region_T (S := fun w' => Fx B w.drew w') [10, 11, 12] (by kernel_rfl) (Fx.refl B _) (fun hHeld => ?_)
  try dsimp only at hHeld
  refine wpAnyT_take (i := 0) rfl (by kernel_rfl) (by kernel_rfl) (by kernel_rfl) (by kernel_rfl) (fun _ _ _ h => h) (Or.inl ⟨by rfl, by intro w hSw; (try dsimp only at hSw); go_simp; (try with_reducible rfl)⟩) (by assumption) ?_; (try simp only [Act.put, List.setIfInBounds_toArray, List.set_cons_zero, List.set_cons_succ, List.getElem_toArray, List.getElem_cons_zero, List.getElem_cons_succ])
  refine wpAnyT_take (i := 1) rfl (by kernel_rfl) (by kernel_rfl) (by kernel_rfl) (by kernel_rfl) (fun _ _ _ h => h) (Or.inl ⟨by rfl, by intro w hSw; (try dsimp only at hSw); go_simp; (try with_reducible rfl)⟩) (by assumption) ?_; (try simp only [Act.put, List.setIfInBounds_toArray, List.set_cons_zero, List.set_cons_succ, List.getElem_toArray, List.getElem_cons_zero, List.getElem_cons_succ])
  refine wpAnyT_take (i := 2) rfl (by kernel_rfl) (by kernel_rfl) (by kernel_rfl) (by kernel_rfl) (fun _ _ _ h => h) (Or.inl ⟨by rfl, by intro w hSw; (try dsimp only at hSw); go_simp; (try with_reducible rfl)⟩) (by assumption) ?_; (try simp only [Act.put, List.setIfInBounds_toArray, List.set_cons_zero, List.set_cons_succ, List.getElem_toArray, List.getElem_cons_zero, List.getElem_cons_succ])
  refine wpAnyT_take (i := 4) rfl (by kernel_rfl) (by kernel_rfl) (by kernel_rfl) (by kernel_rfl) (fun _ _ _ h => h) (Or.inl ⟨by rfl, by intro w hSw; (try dsimp only at hSw); go_simp; (try with_reducible rfl)⟩) (by assumption) ?_; (try simp only [Act.put, List.setIfInBounds_toArray, List.set_cons_zero, List.set_cons_succ, List.getElem_toArray, List.getElem_cons_zero, List.getElem_cons_succ])
  refine wpAnyT_take (i := 6) rfl (by kernel_rfl) (by kernel_rfl) (by kernel_rfl) (by kernel_rfl) (fun _ _ _ h => h) (Or.inl ⟨by rfl, by intro w hSw; (try dsimp only at hSw); go_simp; (try with_reducible rfl)⟩) (by assumption) ?_; (try simp only [Act.put, List.setIfInBounds_toArray, List.set_cons_zero, List.set_cons_succ, List.getElem_toArray, List.getElem_cons_zero, List.getElem_cons_succ])
  refine wpAnyT_ready (rs := [3]) (by kernel_rfl) (by simp) ?_
  refine AllReadyT.cons rfl (fun K hK => ?_) AllReadyT.nil
  go_simp
  go_wp2_with (go_at_call 106; refine (rnum (HR.out.gr (Gr.refl w).drew) (by omega)).mono ?_; rintro e u1 ⟨rfl, hr1, hF1⟩)
  refine hK.out _ _ hF1 (fun _ => wpAnyT_turnF hF1 (fun hHeld => ?_))
  clear hK K
  try dsimp only at hHeld
  have F1' := Rule.turnF F1 hF1
  have F2' := Rule.turnF F2 hF1
  clear F1 F2
  have HR1 := Lib.hid hr1
  clear hr1
  refine wpAnyT_ready (rs := [5]) (by kernel_rfl) (by simp) ?_
  refine AllReadyT.cons rfl (fun K hK => ?_) AllReadyT.nil
  go_simp
  go_wp2_with (go_at_call 111; refine (rflag HR1.out (by omega)).mono ?_; rintro e u2 ⟨rfl, hr2, hF2⟩)
  refine hK.out _ _ hF2 (fun _ => wpAnyT_turnF hF2 (fun hHeld => ?_))
  clear hK K
  try dsimp only at hHeld
  have F1'' := Rule.turnF F1' hF2
  have F2'' := Rule.turnF F2' hF2
  clear F1' F2'
  have HR2 := Lib.hid hr2
  clear hr2
  refine wpAnyT_ready (rs := [7]) (by kernel_rfl) (by simp) ?_
  refine AllReadyT.cons rfl (fun K hK => ?_) AllReadyT.nil
  go_simp
  go_wp2_with (go_at_call 107; refine (rstr HR2.out (by omega)).mono ?_; rintro e u3 ⟨rfl, hr3, hF3⟩)
  refine hK.out _ _ hF3 (fun _ => wpAnyT_turnF hF3 (fun hHeld => ?_))
  clear hK K
  try dsimp only at hHeld
  have F1''' := Rule.turnF F1'' hF3
  have F2''' := Rule.turnF F2'' hF3
  clear F1'' F2''
  have HR3 := Lib.hid hr3
  clear hr3
  refine wpAnyT_take (i := 8) rfl (by kernel_rfl) (by kernel_rfl) (by kernel_rfl) (by kernel_rfl) (fun _ _ _ h => h) (Or.inl ⟨by rfl, by intro w hSw; (try dsimp only at hSw); go_simp; (try with_reducible rfl)⟩) (by assumption) ?_; (try simp only [Act.put, List.setIfInBounds_toArray, List.set_cons_zero, List.set_cons_succ, List.getElem_toArray, List.getElem_cons_zero, List.getElem_cons_succ])
  refine wpAnyT_ready (rs := [9]) (by kernel_rfl) (by simp) ?_
  refine AllReadyT.cons rfl (fun K hK => ?_) AllReadyT.nil
  go_simp
  refine hK.out _ _ (Fx.gr ((Gr.refl _).alloc _) B) (fun _ => ?_)
  clear hK K
  refine wpAnyT_chain [10, 11, 12] (.cons rfl (.cons rfl (.cons rfl .nil))) (by kernel_rfl) (by kernel_rfl) rfl ?_
  clear hHeld F1''' F2'''
  have hFF : Fx B w.drew u3 := (hF1.trans hF2).trans hF3
  have HXu := Lib.hid (hFF.blk _ _ (heap_drew HX.out) hXB)
  have HCu := Lib.hid (hFF.blk _ _ (heap_drew HC.out) hCB)
  have HOu : Hid (OwnG 76 3 chgCells u3 N (.slice q l.length c) l) := Lib.hid (HO.out.kept (fun g cc f hg => hFF.blk _ _ (heap_drew hg) (by rintro rfl; obtain ⟨⟨v, h1, _⟩, _⟩ := HR.out; rw [hg] at h1; simp at h1)))
  have hsz : N ≤ u3.heap.size := Nat.le_trans (by simpa using hN) hFF.size
  refine app_gen elChg encChg (N := N) (by simp; omega) (by rfl) _ _ (by rfl) l [(opP.chg s).1] (by rfl) (by rfl) (HOu.out.gr ((Gr.refl _).alloc _)) (RdE.one encChg u3 76 (opP.chg s).1 rfl rfl) (by simp; omega) (by simp; omega) ?_
  intro v1 w1 hown1 hgb1
  have hXw := (HOu.out.gr ((Gr.refl _).alloc _)).other hgb1 (heap_alloc_mono HXu.out _) (by decide)
  obtain ⟨q1, d1, rfl⟩ := hown1.slice
  obtain ⟨k_0, k_1, k_2, k_3, k_4, k_5, k_6, k_7, k_8, g_0, g_1, g_2, g_3, g_4, g_5, g_6, g_7, g_8, l_0⟩ := blk9 hXw
  go_wp2
  go_end0
  have hCw := (HOu.out.gr ((Gr.refl _).alloc _)).other hgb1 (heap_alloc_mono HCu.out _) (by decide)
  have hRw := Rdr.grown (HR3.out.gr ((Gr.refl _).alloc _)) (HOu.out.gr ((Gr.refl _).alloc _)) hgb1 (by decide) (by decide)
  refine ⟨rfl, _, by simpa using heap_set hXw 8 _, hown1.kept (fun g cc f hg => heap_set_other hg _ _ (by rintro rfl; rw [hXw] at hg; simp at hg)), heap_set_other hCw _ _ hXC, hRw.setX hXw hXB (by decide), ?_⟩
  have hb1 : Below N w u3 := ((Below.refl N w).drew).trans (hFF.below hBN (by simpa using hN))
  exact ((hb1.alloc hsz _).grown hgb1 (by simp; omega) (fun k hk => (World.ownsRow.lt HOu.out k hk).1)).setCell hNX _

end Go.Proofs.YthgecojbggoniaaGreatDoor
namespace Go.Proofs.YthgecojbggoniaaGreatDoor
open Go.RowKit
set_option maxRecDepth 100000
set_option linter.unusedVariables false
set_option linter.unusedSimpArgs false

theorem valN_le (s : St) : valN s ≤ 9007199254740991 := by
  unfold valN
  cases hs : s.1 with
  | nil => simp [takeN]
  | cons m t =>
    rw [takeN]
    split
    · simp
    split
    · simp
    split
    · simp
    · rename_i h; simp only; omega
theorem nextN_lt {s : St} (h : (nextN s).2 = false) : (nextN s).1.length < s.1.length := by
  unfold nextN at h ⊢
  cases hs : s.1 with
  | nil => rw [hs] at h; simp [takeN] at h
  | cons m t =>
    rw [hs] at h
    rw [takeN] at h ⊢
    split
    · rename_i h1; simp [h1] at h
    split
    · rename_i h1 h2; simp [h1, h2] at h
    split
    · rename_i h1 h2 h3; simp [h1, h2, h3] at h
    · simp; omega
theorem chg_length (s : St) : (opP.chg s).2.1.length ≤ s.1.length ∧ ((opP.chg s).2.2 = false → (opP.chg s).2.1.length < s.1.length) := by
  have h1 := nextN_length s
  have h2 := nextF_length (nextN s)
  have h3 := nextS_length (nextF (nextN s))
  refine ⟨by simp only [Ops.chg, opP]; omega, fun h => ?_⟩
  have h4 := nextN_lt (backF (backS h))
  simp only [Ops.chg, opP]
  omega
set_option maxHeartbeats 4000000 in
theorem ittMany_any {B X C N : Nat} {s : St} {w : World} {c0 c1 c2 c3 c4 c5 c6 c7 : Value}
    (hX : w.heap[X]? = some (.cells #[c0, c1, c2, c3, c4, c5, c6, c7, .slice none 0 0] 40))
    (hC : w.heap[C]? = some (.cells #[.pointer (some ⟨B, 0, none⟩)] 168))
    (hR : Rdr 170 B s w) (hN : N ≤ w.heap.size) (hBN : N ≤ B) (hNX : N ≤ X) (hlen : s.1.length ≤ 4398046511000) :
    Calls Tryz.prog 109 #[.pointer (some ⟨B, 0, none⟩), .func (.func 110) #[] #[.pointer (some ⟨X, 0, none⟩), .pointer (some ⟨C, 0, none⟩)]] w fun e w' => e = .returned (.tuple #[]) ∧ ∃ vl', w'.heap[X]? = some (.cells #[c0, c1, c2, c3, c4, c5, c6, c7, vl'] 40) ∧ OwnG 76 3 chgCells w' N vl' (many opP.chg (valN s) (nextN s)).1
      ∧ w'.heap[C]? = some (.cells #[.pointer (some ⟨B, 0, none⟩)] 168) ∧ Rdr 170 B (many opP.chg (valN s) (nextN s)).2 w' ∧ Below N w w' := by
  have hXB : X ≠ B := by rintro rfl; obtain ⟨⟨v, h1, _⟩, _⟩ := hR; rw [hX] at h1; simp at h1
  have hCB : C ≠ B := by rintro rfl; obtain ⟨⟨v, h1, _⟩, _⟩ := hR; rw [hC] at h1; simp at h1
  have hvb := valN_le s
  have hl1 := nextN_length s
  have HX := Lib.hid hX
  have HC := Lib.hid hC
  have HR := Lib.hid (rnum hR (by omega))
  have HM : Hid (∀ n t, many opP.chg (n + 1) t = if t.2 = true then ([], t) else ((opP.chg t).1 :: (many opP.chg n (opP.chg t).2).1, (many opP.chg n (opP.chg t).2).2)) := Lib.hid (fun _ _ => rfl)
  have HL := Lib.hid (chg_length)
  clear hX hC hR
  generalize hvn : valN s = n at *
  generalize hsn : nextN s = s1 at *
  clear hvn hsn
  have HG : Hid (∃ r, r = many opP.chg n s1) := Lib.hid ⟨_, rfl⟩
  obtain ⟨r, hr⟩ := HG.out
  rw [← hr]
  have HRR := Lib.hid hr
  clear hr HG
  go_enter Tryz.func109, Tryz.ntmps109
  go_wp2_with (go_at_call 106; refine HR.out.mono ?_; rintro e w1 ⟨rfl, hr1, hF1⟩)
  have HX1 := Lib.hid (hF1.blk _ _ HX.out hXB)
  have HC1 := Lib.hid (hF1.blk _ _ HC.out hCB)
  have HR1 := Lib.hid hr1
  have HB1 := Lib.hid (hF1.below hBN hN)
  have hN1 := Nat.le_trans hN hF1.size
  clear hr1
  go_loopw [4] (fun v wr => ∃ (m : Nat) (s' : St) (l' : List Chg) (vl : Value), v = .int .i64 m ∧ m ≤ n ∧ Hid (r = (l' ++ (many opP.chg m s').1, (many opP.chg m s').2)) ∧ l'.length + s'.1.length ≤ s1.1.length + (if s'.2 = true then 1 else 0)
      ∧ Hid (wr.heap[X]? = some (.cells #[c0, c1, c2, c3, c4, c5, c6, c7, vl] 40)) ∧ Hid (OwnG 76 3 chgCells wr N vl l') ∧ Hid (wr.heap[C]? = some (.cells #[.pointer (some ⟨B, 0, none⟩)] 168)) ∧ Hid (Rdr 170 B s' wr) ∧ Hid (Below N w wr)) (fun v _ => (intOf v).toNat)
  case atStart => exact ⟨n, s1, [], _, rfl, Nat.le_refl _, Lib.hid (by rw [HRR.out]; rfl), by simp, HX1, Lib.hid (OwnG.nil _ _), HC1, HR1, HB1⟩
  case round =>
    obtain ⟨m, s', l', vl, rfl, hmn, HE, hbd, HX2, HO2, HC2, HR2, HB2⟩ := hrel
    obtain ⟨⟨v1, hv1, _⟩, _⟩ := HR2.out
    obtain ⟨k_0, k_1, g_0, g_1, l_0⟩ := blk2 hv1
    clear hv1
    obtain ⟨ls, b⟩ := s'
    cases m with
    | zero =>
      have hrr : r = (l', (ls, b)) := by rw [HE.out]; simp [many]
      subst hrr
      go_wp2
      go_end0
      exact ⟨rfl, vl, HX2.out, HO2.out, HC2.out, HR2.out, HB2.out⟩
    | succ m =>
      cases b with
      | true =>
        have hrr : r = (l', (ls, true)) := by rw [HE.out, HM.out, if_pos rfl]; simp
        subst hrr
        go_wp2
        go_end0
        exact ⟨rfl, vl, HX2.out, HO2.out, HC2.out, HR2.out, HB2.out⟩
      | false =>
        have hbd' : l'.length + ls.length ≤ s1.1.length := by simpa using hbd
        have hll := HL.out (ls, false)
        have HCL := Lib.hid (ittChg_any HX2.out HC2.out HR2.out HO2.out (Nat.le_trans hN HB2.out.size) hBN hNX (by simp only; omega) (by omega))
        have HE2 : Hid (r = ((l' ++ [(opP.chg (ls, false)).1]) ++ (many opP.chg m (opP.chg (ls, false)).2).1, (many opP.chg m (opP.chg (ls, false)).2).2)) := Lib.hid (by rw [HE.out, HM.out, if_neg (by simp)]; simp)
        clear HE hbd
        go_wp2_with (go_at_call 110; refine HCL.out.mono ?_; rintro e w2 ⟨rfl, vl2, hX3, hO3, hC3, hR3, hB3⟩; (have HX3 := Lib.hid hX3); (have HO3 := Lib.hid hO3); (have HC3 := Lib.hid hC3); (have HR3 := Lib.hid hR3); clear hX3 hO3 hC3 hR3)
        go_roundw
        case rel =>
          refine ⟨m, _, _, vl2, by go_num, by omega, HE2, ?_, HX3, HO3, HC3, HR3, Lib.hid (HB2.out.trans hB3)⟩
          simp only [List.length_append, List.length_cons, List.length_nil]
          cases hb : (opP.chg (ls, false)).2.2 with
          | true => simp only [if_true]; have := hll.1; omega
          | false => have := hll.2 hb; simp; omega
        case measure => (first | (simp [intOf]; done) | (simp [intOf]; omega))

end Go.Proofs.YthgecojbggoniaaGreatDoor
