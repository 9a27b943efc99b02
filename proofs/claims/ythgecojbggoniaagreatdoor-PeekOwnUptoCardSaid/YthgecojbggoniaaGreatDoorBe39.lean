/- What the rows stand on, part 39: TakC. Printed by bundle.py out of my texts. -/
import Derived.Test.YthgecojbggoniaaGreatDoorBe16
import Derived.Test.YthgecojbggoniaaGreatDoorBe17
import Derived.Test.YthgecojbggoniaaGreatDoorBe38
namespace Go.Proofs.YthgecojbggoniaaGreatDoor
open Go.RowKit
set_option maxRecDepth 100000
set_option linter.unusedVariables false
set_option linter.unusedSimpArgs false

/-- a taker at work: its struct at X, its reader at B, the variable that holds the reader at C -/
structure Tk (X B C : Nat) (cs : Array Value) (tX : TypeId) (s : St) (w0 w : World) : Prop where
  hX : w.heap[X]? = some (.cells cs tX)
  hC : w.heap[C]? = some (.cells #[.pointer (some ⟨B, 0, none⟩)] 168)
  hR : Rdr 170 B s w
  hG : Gr w0 w
  xb : X ≠ B
  cb : C ≠ B
  xc : X ≠ C
  nx : w0.heap.size ≤ X
  nb : w0.heap.size ≤ B
  tu : tX ≠ 5
theorem Tk.fx {X B C : Nat} {cs : Array Value} {tX : TypeId} {s s' : St} {w0 w w' : World} (h : Tk X B C cs tX s w0 w) (hF : Fx B w w') (hR : Rdr 170 B s' w') : Tk X B C cs tX s' w0 w' :=
  ⟨hF.blk _ _ h.hX h.xb, hF.blk _ _ h.hC h.cb, hR, Fx.toGr h.hG hF h.nb, h.xb, h.cb, h.xc, h.nx, h.nb, h.tu⟩
theorem Tk.set {X B C : Nat} {cs : Array Value} {tX : TypeId} {s : St} {w0 w : World} (h : Tk X B C cs tX s w0 w) (i : Nat) (u : Value) : Tk X B C (cs.setIfInBounds i u) tX s w0 (w.setCell ⟨X, i, none⟩ u) :=
  ⟨heap_set h.hX i u, heap_set_other h.hC _ _ h.xc, h.hR.setX h.hX h.xb h.tu, h.hG.setCell h.nx _, h.xb, h.cb, h.xc, h.nx, h.nb, h.tu⟩
theorem Tk.drew {X B C : Nat} {cs : Array Value} {tX : TypeId} {s : St} {w0 w : World} (h : Tk X B C cs tX s w0 w) : Tk X B C cs tX s w0 w.drew :=
  ⟨heap_drew h.hX, heap_drew h.hC, h.hR.gr (Gr.refl _).drew, h.hG.drew, h.xb, h.cb, h.xc, h.nx, h.nb, h.tu⟩
theorem many_left {α : Type} {f : St → α × St} (hf : ∀ s, (f s).2.1.length ≤ s.1.length ∧ ((f s).2.2 = false → (f s).2.1.length < s.1.length)) : ∀ (n : Nat) (s : St), (many f n s).2.1.length ≤ s.1.length
  | 0, s => Nat.le_refl _
  | n + 1, s => by
    rw [many]
    split
    · exact Nat.le_refl _
    · exact Nat.le_trans (many_left hf n _) (hf s).1
theorem many_count {α : Type} {f : St → α × St} (hf : ∀ s, (f s).2.1.length ≤ s.1.length ∧ ((f s).2.2 = false → (f s).2.1.length < s.1.length)) : ∀ (n : Nat) (s : St), (many f n s).1.length ≤ s.1.length + 1
  | 0, s => by simp [many]
  | n + 1, s => by
    rw [many]
    split
    · simp
    · have h2 := many_count hf n (f s).2
      cases hb : (f s).2.2 with
      | true => rw [many_bad f n _ hb]; simp
      | false => have := (hf s).2 hb; simp; omega
theorem Tk.cs {X B C : Nat} {cs cs' : Array Value} {tX : TypeId} {s : St} {w0 w : World} (h : Tk X B C cs tX s w0 w) (e : cs = cs') : Tk X B C cs' tX s w0 w := e ▸ h

def ittOut (o : Option Itt) : Itt × Int := match o with
  | some x => (x, 0)
  | none => (⟨0, 0, 0, ⟨#[]⟩, 0, 0, 0, 0, []⟩, 4)

set_option maxHeartbeats 8000000 in
theorem takeIntent_any (s : ByteArray) (hs : s.size ≤ 4398046511000) (w : World) :
    Calls Tryz.prog 89 #[.string s] w fun e w' => ∃ v, e = .returned (.tuple #[.agg #[.int .i64 (ittOut (takeIttR s.data.toList)).1.id, .int .i64 (ittOut (takeIttR s.data.toList)).1.epoch, .int .i64 (ittOut (takeIttR s.data.toList)).1.prio, .string (ittOut (takeIttR s.data.toList)).1.anchor, .int .i64 (ittOut (takeIttR s.data.toList)).1.sw, .int .i64 (ittOut (takeIttR s.data.toList)).1.sl, .int .i64 (ittOut (takeIttR s.data.toList)).1.bw, .int .i64 (ittOut (takeIttR s.data.toList)).1.bl, v], .int .i64 (ittOut (takeIttR s.data.toList)).2])
      ∧ RdC w' v (ittOut (takeIttR s.data.toList)).1.l ∧ Gr w w' := by
  have hl : s.data.toList.length = s.size := Array.length_toList
  have hcv := fun (w : World) => Lib.run_convert_string_bytes (P := Tryz.prog) w 9 133 5 s Tryz.underlying9 Tryz.underlying133 Tryz.underlying5
  have hsz := Lib.bytesWorld_size (w.alloc (.cells #[.int .i64 0, .int .i64 0, .int .i64 0, .string ⟨#[]⟩, .int .i64 0, .int .i64 0, .int .i64 0, .int .i64 0, .slice none 0 0] 40)) 5 s
  have hgr := bytesWorld_gr (w.alloc (.cells #[.int .i64 0, .int .i64 0, .int .i64 0, .string ⟨#[]⟩, .int .i64 0, .int .i64 0, .int .i64 0, .int .i64 0, .slice none 0 0] 40)) 5 s
  have q1 : (nextN (s.data.toList, false)).1.length ≤ s.size := Nat.le_trans (nextN_length _) (by rw [← hl]; exact Nat.le_refl _)
  have q2 : (nextN (nextN (s.data.toList, false))).1.length ≤ s.size := Nat.le_trans (nextN_length _) q1
  have q3 : (nextN (nextN (nextN (s.data.toList, false)))).1.length ≤ s.size := Nat.le_trans (nextN_length _) q2
  have qA : (nextS (nextN (nextN (nextN (s.data.toList, false))))).1.length ≤ s.size := Nat.le_trans (nextS_length _) q3
  have qB : (nextN (nextN (nextS (nextN (nextN (nextN (s.data.toList, false))))))).1.length ≤ s.size := Nat.le_trans (nextN_length _) (Nat.le_trans (nextN_length _) qA)
  have qC : (nextN (nextN (nextN (nextN (nextS (nextN (nextN (nextN (s.data.toList, false))))))))).1.length ≤ s.size := Nat.le_trans (nextN_length _) (Nat.le_trans (nextN_length _) qB)
  have qD : (nextN (nextN (nextN (nextN (nextN (nextS (nextN (nextN (nextN (s.data.toList, false)))))))))).1.length ≤ s.size := Nat.le_trans (nextN_length _) qC
  have HU : Hid (takeIttR s.data.toList = if offE (many opP.chg (valN (nextN (nextN (nextN (nextN (nextS (nextN (nextN (nextN (s.data.toList, false)))))))))) (nextN (nextN (nextN (nextN (nextN (nextS (nextN (nextN (nextN (s.data.toList, false))))))))))).2 (okE (ittOk (⟨valN (s.data.toList, false), valN (nextN (s.data.toList, false)), valN (nextN (nextN (s.data.toList, false))), ⟨(valS (nextN (nextN (nextN (s.data.toList, false))))).toArray⟩, valN (nextS (nextN (nextN (nextN (s.data.toList, false))))), valN (nextN (nextS (nextN (nextN (nextN (s.data.toList, false)))))), valN (nextN (nextN (nextS (nextN (nextN (nextN (s.data.toList, false))))))), valN (nextN (nextN (nextN (nextS (nextN (nextN (nextN (s.data.toList, false)))))))), (many opP.chg (valN (nextN (nextN (nextN (nextN (nextS (nextN (nextN (nextN (s.data.toList, false)))))))))) (nextN (nextN (nextN (nextN (nextN (nextS (nextN (nextN (nextN (s.data.toList, false))))))))))).1⟩ : Itt))) = 0 then some (⟨valN (s.data.toList, false), valN (nextN (s.data.toList, false)), valN (nextN (nextN (s.data.toList, false))), ⟨(valS (nextN (nextN (nextN (s.data.toList, false))))).toArray⟩, valN (nextS (nextN (nextN (nextN (s.data.toList, false))))), valN (nextN (nextS (nextN (nextN (nextN (s.data.toList, false)))))), valN (nextN (nextN (nextS (nextN (nextN (nextN (s.data.toList, false))))))), valN (nextN (nextN (nextN (nextS (nextN (nextN (nextN (s.data.toList, false)))))))), (many opP.chg (valN (nextN (nextN (nextN (nextN (nextS (nextN (nextN (nextN (s.data.toList, false)))))))))) (nextN (nextN (nextN (nextN (nextN (nextS (nextN (nextN (nextN (s.data.toList, false))))))))))).1⟩ : Itt) else none) := Lib.hid rfl
  have HQ : Hid ((many opP.chg (valN (nextN (nextN (nextN (nextN (nextS (nextN (nextN (nextN (s.data.toList, false)))))))))) (nextN (nextN (nextN (nextN (nextN (nextS (nextN (nextN (nextN (s.data.toList, false))))))))))).2.1.length ≤ s.size) := Lib.hid (Nat.le_trans (many_left chg_length _ _) qD)
  have HT : Hid (Tk w.heap.size (w.heap.size + 1 + 1) (w.heap.size + 1 + 1 + 1) #[.int .i64 0, .int .i64 0, .int .i64 0, .string ⟨#[]⟩, .int .i64 0, .int .i64 0, .int .i64 0, .int .i64 0, .slice none 0 0] 40 (s.data.toList, false) w (((Lib.bytesWorld (w.alloc (.cells #[.int .i64 0, .int .i64 0, .int .i64 0, .string ⟨#[]⟩, .int .i64 0, .int .i64 0, .int .i64 0, .int .i64 0, .slice none 0 0] 40)) 5 s).alloc (.cells #[.slice (some ⟨w.heap.size + 1, 0, none⟩) s.size (grownCap (w.alloc (.cells #[.int .i64 0, .int .i64 0, .int .i64 0, .string ⟨#[]⟩, .int .i64 0, .int .i64 0, .int .i64 0, .int .i64 0, .slice none 0 0] 40)) s.size 0 5), .bool false] 170)).alloc (.cells #[.pointer (some ⟨w.heap.size + 1 + 1, 0, none⟩)] 168))) := Lib.hid ⟨heap_alloc_mono (heap_alloc_mono (hgr.blk (heap_alloc_new _ _)) _) _, heap_newn (by simp [hsz]), (Rdr.bytes _ _ s (by omega) (by simp) (by simp)).gr ((Gr.refl _).alloc _), (((((Gr.refl w).alloc _).trans hgr).alloc _).alloc _), by omega, by omega, by omega, by omega, by omega, by decide⟩
  go_enter Tryz.func89, Tryz.ntmps89
  go_wp2_with fail
  generalize (((Lib.bytesWorld (w.alloc (.cells #[.int .i64 0, .int .i64 0, .int .i64 0, .string ⟨#[]⟩, .int .i64 0, .int .i64 0, .int .i64 0, .int .i64 0, .slice none 0 0] 40)) 5 s).alloc (.cells #[.slice (some ⟨w.heap.size + 1, 0, none⟩) s.size (grownCap (w.alloc (.cells #[.int .i64 0, .int .i64 0, .int .i64 0, .string ⟨#[]⟩, .int .i64 0, .int .i64 0, .int .i64 0, .int .i64 0, .slice none 0 0] 40)) s.size 0 5), .bool false] 170)).alloc (.cells #[.pointer (some ⟨w.heap.size + 1 + 1, 0, none⟩)] 168)) = a at HT ⊢
  clear hcv hsz hgr
  have hT := HT.out.drew
  obtain ⟨j_0, jf_0, jl_0⟩ := blk1 hT.hC
  have F0 := cellRuleF (B := (w.heap.size + 1 + 1)) (by exact hT.cb) j_0
  clear j_0 jf_0 jl_0
  have HTd := Lib.hid hT
  clear hT
  refine wp_region_T (S := fun w' => Fx (w.heap.size + 1 + 1) a.drew w') [7, 8, 9, 10, 11] (by kernel_rfl) (Fx.refl _ _) (fun hHeld => ?_)
  try dsimp only at hHeld
  refine wpAnyT_take (i := 0) rfl (by kernel_rfl) (by kernel_rfl) (by kernel_rfl) (by kernel_rfl) (fun _ _ _ h => h) (Or.inl ⟨by rfl, by intro w hSw; (try dsimp only at hSw); go_simp; (try with_reducible rfl)⟩) (by assumption) ?_; (try simp only [Act.put, List.setIfInBounds_toArray, List.set_cons_zero, List.set_cons_succ, List.getElem_toArray, List.getElem_cons_zero, List.getElem_cons_succ])
  refine wpAnyT_take (i := 2) rfl (by kernel_rfl) (by kernel_rfl) (by kernel_rfl) (by kernel_rfl) (fun _ _ _ h => h) (Or.inl ⟨by rfl, by intro w hSw; (try dsimp only at hSw); go_simp; (try with_reducible rfl)⟩) (by assumption) ?_; (try simp only [Act.put, List.setIfInBounds_toArray, List.set_cons_zero, List.set_cons_succ, List.getElem_toArray, List.getElem_cons_zero, List.getElem_cons_succ])
  refine wpAnyT_take (i := 4) rfl (by kernel_rfl) (by kernel_rfl) (by kernel_rfl) (by kernel_rfl) (fun _ _ _ h => h) (Or.inl ⟨by rfl, by intro w hSw; (try dsimp only at hSw); go_simp; (try with_reducible rfl)⟩) (by assumption) ?_; (try simp only [Act.put, List.setIfInBounds_toArray, List.set_cons_zero, List.set_cons_succ, List.getElem_toArray, List.getElem_cons_zero, List.getElem_cons_succ])
  refine wpAnyT_ready (rs := [1]) (by kernel_rfl) (by simp) ?_
  refine AllReadyT.cons rfl (fun K hK => ?_) AllReadyT.nil
  go_simp
  go_wp2_with (go_at_call 106; refine (rnum HTd.out.hR (by first | omega | (simp only; omega))).mono ?_; rintro e u1 ⟨rfl, hr, hF⟩)
  refine hK.out _ _ hF (fun _ => wpAnyT_turnF hF (fun hHeld => ?_))
  clear hK K
  try dsimp only at hHeld
  have F1 := Rule.turnF F0 hF
  clear F0
  have F0 := F1
  clear F1
  have HTu1 := Lib.hid (HTd.out.fx hF hr)
  clear hr hF HTd
  refine wpAnyT_take (i := 6) rfl (by kernel_rfl) (by kernel_rfl) (by kernel_rfl) (by kernel_rfl) (fun _ _ _ h => h) (Or.inl ⟨by rfl, by intro w hSw; (try dsimp only at hSw); go_simp; (try with_reducible rfl)⟩) (by assumption) ?_; (try simp only [Act.put, List.setIfInBounds_toArray, List.set_cons_zero, List.set_cons_succ, List.getElem_toArray, List.getElem_cons_zero, List.getElem_cons_succ])
  refine wpAnyT_ready (rs := [3]) (by kernel_rfl) (by simp) ?_
  refine AllReadyT.cons rfl (fun K hK => ?_) AllReadyT.nil
  go_simp
  go_wp2_with (go_at_call 106; refine (rnum HTu1.out.hR (by first | omega | (simp only; omega))).mono ?_; rintro e u2 ⟨rfl, hr, hF⟩)
  refine hK.out _ _ hF (fun _ => wpAnyT_turnF hF (fun hHeld => ?_))
  clear hK K
  try dsimp only at hHeld
  have F1 := Rule.turnF F0 hF
  clear F0
  have F0 := F1
  clear F1
  have HTu2 := Lib.hid (HTu1.out.fx hF hr)
  clear hr hF HTu1
  refine wpAnyT_ready (rs := [5]) (by kernel_rfl) (by simp) ?_
  refine AllReadyT.cons rfl (fun K hK => ?_) AllReadyT.nil
  go_simp
  go_wp2_with (go_at_call 106; refine (rnum HTu2.out.hR (by first | omega | (simp only; omega))).mono ?_; rintro e u3 ⟨rfl, hr, hF⟩)
  refine hK.out _ _ hF (fun _ => wpAnyT_turnF hF (fun hHeld => ?_))
  clear hK K
  try dsimp only at hHeld
  have F1 := Rule.turnF F0 hF
  clear F0
  have F0 := F1
  clear F1
  have HTu3 := Lib.hid (HTu2.out.fx hF hr)
  clear hr hF HTu2
  refine wpAnyT_chain [7, 8, 9, 10, 11] (.cons rfl (.cons rfl (.cons rfl (.cons rfl (.cons rfl .nil))))) (by kernel_rfl) (by kernel_rfl) rfl ?_
  clear hHeld F0
  have hX := HTu3.out.hX
  obtain ⟨k_0, k_1, k_2, k_3, k_4, k_5, k_6, k_7, k_8, g_0, g_1, g_2, g_3, g_4, g_5, g_6, g_7, g_8, l_0⟩ := blk9 hX
  clear hX
  have HT2 : Hid (Tk w.heap.size (w.heap.size + 1 + 1) (w.heap.size + 1 + 1 + 1) #[.int .i64 (valN (s.data.toList, false)), .int .i64 (valN (nextN (s.data.toList, false))), .int .i64 (valN (nextN (nextN (s.data.toList, false)))), .string ⟨#[]⟩, .int .i64 0, .int .i64 0, .int .i64 0, .int .i64 0, .slice none 0 0] 40 (nextN (nextN (nextN (s.data.toList, false)))) w (((u3.setCell ⟨w.heap.size, 0, none⟩ (.int .i64 (valN (s.data.toList, false)))).setCell ⟨w.heap.size, 1, none⟩ (.int .i64 (valN (nextN (s.data.toList, false))))).setCell ⟨w.heap.size, 2, none⟩ (.int .i64 (valN (nextN (nextN (s.data.toList, false))))))) := Lib.hid ((((HTu3.out.set 0 (.int .i64 (valN (s.data.toList, false)))).set 1 (.int .i64 (valN (nextN (s.data.toList, false))))).set 2 (.int .i64 (valN (nextN (nextN (s.data.toList, false)))))).cs (by simp))
  obtain ⟨j_0, jf_0, jl_0⟩ := blk1 HTu3.out.hC
  clear HTu3 HT
  go_wp2_with (go_at_call 107; refine (rstr HT2.out.hR (by omega)).mono ?_; rintro e b1 ⟨rfl, hr, hF⟩; (have HT3 := Lib.hid (HT2.out.fx hF hr)); clear hr hF; obtain ⟨m_0, m_1, m_2, m_3, m_4, m_5, m_6, m_7, m_8, mg_0, mg_1, mg_2, mg_3, mg_4, mg_5, mg_6, mg_7, mg_8, ml_0⟩ := blk9 HT3.out.hX)
  clear j_0 jf_0 jl_0 k_0 k_1 k_2 k_3 k_4 k_5 k_6 k_7 k_8 g_0 g_1 g_2 g_3 g_4 g_5 g_6 g_7 g_8
  clear ml_0 m_0 m_1 m_2 m_3 m_4 m_5 m_6 m_7 m_8 mg_0 mg_1 mg_2 mg_3 mg_4 mg_5 mg_6 mg_7 mg_8
  have HT : Hid (Tk w.heap.size (w.heap.size + 1 + 1) (w.heap.size + 1 + 1 + 1) #[.int .i64 (valN (s.data.toList, false)), .int .i64 (valN (nextN (s.data.toList, false))), .int .i64 (valN (nextN (nextN (s.data.toList, false)))), .string ⟨(valS (nextN (nextN (nextN (s.data.toList, false))))).toArray⟩, .int .i64 0, .int .i64 0, .int .i64 0, .int .i64 0, .slice none 0 0] 40 (nextS (nextN (nextN (nextN (s.data.toList, false))))) w (b1.setCell ⟨w.heap.size, 3, none⟩ (.string ⟨(valS (nextN (nextN (nextN (s.data.toList, false))))).toArray⟩))) := Lib.hid ((HT3.out.set 3 (.string ⟨(valS (nextN (nextN (nextN (s.data.toList, false))))).toArray⟩)).cs (by simp))
  clear HT2 HT3
  generalize (b1.setCell ⟨w.heap.size, 3, none⟩ (.string ⟨(valS (nextN (nextN (nextN (s.data.toList, false))))).toArray⟩)) = c at HT ⊢
  have hmf : ∀ (fn : Fn) (first cap : Array Value) (w : World), (Instr.makeFunc fn first cap).run Tryz.prog w = .ok (.func fn first cap) w := fun _ _ _ _ => rfl
  have hT := HT.out.drew
  obtain ⟨j_0, jf_0, jl_0⟩ := blk1 hT.hC
  have F0 := cellRuleF (B := (w.heap.size + 1 + 1)) (by exact hT.cb) j_0
  clear j_0 jf_0 jl_0
  have HTd := Lib.hid hT
  clear hT
  refine wp_region_T (S := fun w' => Fx (w.heap.size + 1 + 1) c.drew w') [5, 6, 7] (by kernel_rfl) (Fx.refl _ _) (fun hHeld => ?_)
  try dsimp only at hHeld
  refine wpAnyT_take (i := 0) rfl (by kernel_rfl) (by kernel_rfl) (by kernel_rfl) (by kernel_rfl) (fun _ _ _ h => h) (Or.inl ⟨by rfl, by intro w hSw; (try dsimp only at hSw); go_simp; (try with_reducible rfl)⟩) (by assumption) ?_; (try simp only [Act.put, List.setIfInBounds_toArray, List.set_cons_zero, List.set_cons_succ, List.getElem_toArray, List.getElem_cons_zero, List.getElem_cons_succ])
  refine wpAnyT_take (i := 2) rfl (by kernel_rfl) (by kernel_rfl) (by kernel_rfl) (by kernel_rfl) (fun _ _ _ h => h) (Or.inl ⟨by rfl, by intro w hSw; (try dsimp only at hSw); go_simp; (try with_reducible rfl)⟩) (by assumption) ?_; (try simp only [Act.put, List.setIfInBounds_toArray, List.set_cons_zero, List.set_cons_succ, List.getElem_toArray, List.getElem_cons_zero, List.getElem_cons_succ])
  refine wpAnyT_ready (rs := [1]) (by kernel_rfl) (by simp) ?_
  refine AllReadyT.cons rfl (fun K hK => ?_) AllReadyT.nil
  go_simp
  go_wp2_with (go_at_call 108; refine (rstamp HTd.out.hR (by first | omega | (simp only; omega))).mono ?_; rintro e v1 ⟨rfl, hr, hF⟩)
  refine hK.out _ _ hF (fun _ => wpAnyT_turnF hF (fun hHeld => ?_))
  clear hK K
  try dsimp only at hHeld
  have F1 := Rule.turnF F0 hF
  clear F0
  have F0 := F1
  clear F1
  have HTv1 := Lib.hid (HTd.out.fx hF hr)
  clear hr hF HTd
  refine wpAnyT_take (i := 4) rfl (by kernel_rfl) (by kernel_rfl) (by kernel_rfl) (by kernel_rfl) (fun _ _ _ h => h) (Or.inl ⟨by rfl, by intro w hSw; (try dsimp only at hSw); go_simp; (try with_reducible rfl)⟩) (by assumption) ?_; (try simp only [Act.put, List.setIfInBounds_toArray, List.set_cons_zero, List.set_cons_succ, List.getElem_toArray, List.getElem_cons_zero, List.getElem_cons_succ])
  refine wpAnyT_ready (rs := [3]) (by kernel_rfl) (by simp) ?_
  refine AllReadyT.cons rfl (fun K hK => ?_) AllReadyT.nil
  go_simp
  go_wp2_with (go_at_call 108; refine (rstamp HTv1.out.hR (by first | omega | (simp only; omega))).mono ?_; rintro e v2 ⟨rfl, hr, hF⟩)
  refine hK.out _ _ hF (fun _ => wpAnyT_turnF hF (fun hHeld => ?_))
  clear hK K
  try dsimp only at hHeld
  have F1 := Rule.turnF F0 hF
  clear F0
  have F0 := F1
  clear F1
  have HTv2 := Lib.hid (HTv1.out.fx hF hr)
  clear hr hF HTv1
  refine wpAnyT_chain [5, 6, 7] (.cons rfl (.cons rfl (.cons rfl .nil))) (by kernel_rfl) (by kernel_rfl) rfl ?_
  clear hHeld F0
  have hX := HTv2.out.hX
  obtain ⟨k_0, k_1, k_2, k_3, k_4, k_5, k_6, k_7, k_8, g_0, g_1, g_2, g_3, g_4, g_5, g_6, g_7, g_8, l_0⟩ := blk9 hX
  clear hX
  have HT2 : Hid (Tk w.heap.size (w.heap.size + 1 + 1) (w.heap.size + 1 + 1 + 1) #[.int .i64 (valN (s.data.toList, false)), .int .i64 (valN (nextN (s.data.toList, false))), .int .i64 (valN (nextN (nextN (s.data.toList, false)))), .string ⟨(valS (nextN (nextN (nextN (s.data.toList, false))))).toArray⟩, .int .i64 (valN (nextS (nextN (nextN (nextN (s.data.toList, false)))))), .int .i64 (valN (nextN (nextS (nextN (nextN (nextN (s.data.toList, false))))))), .int .i64 (valN (nextN (nextN (nextS (nextN (nextN (nextN (s.data.toList, false)))))))), .int .i64 (valN (nextN (nextN (nextN (nextS (nextN (nextN (nextN (s.data.toList, false))))))))), .slice none 0 0] 40 (nextN (nextN (nextN (nextN (nextS (nextN (nextN (nextN (s.data.toList, false))))))))) w ((((v2.setCell ⟨w.heap.size, 4, none⟩ (.int .i64 (valN (nextS (nextN (nextN (nextN (s.data.toList, false)))))))).setCell ⟨w.heap.size, 5, none⟩ (.int .i64 (valN (nextN (nextS (nextN (nextN (nextN (s.data.toList, false))))))))).setCell ⟨w.heap.size, 6, none⟩ (.int .i64 (valN (nextN (nextN (nextS (nextN (nextN (nextN (s.data.toList, false)))))))))).setCell ⟨w.heap.size, 7, none⟩ (.int .i64 (valN (nextN (nextN (nextN (nextS (nextN (nextN (nextN (s.data.toList, false)))))))))))) := Lib.hid (((((HTv2.out.set 4 (.int .i64 (valN (nextS (nextN (nextN (nextN (s.data.toList, false)))))))).set 5 (.int .i64 (valN (nextN (nextS (nextN (nextN (nextN (s.data.toList, false))))))))).set 6 (.int .i64 (valN (nextN (nextN (nextS (nextN (nextN (nextN (s.data.toList, false)))))))))).set 7 (.int .i64 (valN (nextN (nextN (nextN (nextS (nextN (nextN (nextN (s.data.toList, false))))))))))).cs (by simp))
  obtain ⟨j_0, jf_0, jl_0⟩ := blk1 HTv2.out.hC
  clear HTv2 HT
  go_wp2_with (go_at_call 109; refine (ittMany_any HT2.out.hX HT2.out.hC HT2.out.hR HT2.out.hG.size HT2.out.nb HT2.out.nx (by omega)).mono ?_; rintro e d1 ⟨rfl, vl, hX, hO, hC, hR, hB⟩; (have HX := Lib.hid hX); (have HO := Lib.hid hO); (have HC := Lib.hid hC); (have HR := Lib.hid hR); (have HG : Hid (Gr w d1) := Lib.hid (Gr.of (HT2.out.hG.b.trans hB))); clear hX hO hC hR hB)
  clear j_0 jf_0 jl_0 k_0 k_1 k_2 k_3 k_4 k_5 k_6 k_7 k_8 g_0 g_1 g_2 g_3 g_4 g_5 g_6 g_7 g_8
  clear hmf HT2
  have hcl0 : (many opP.chg (valN (nextN (nextN (nextN (nextN (nextS (nextN (nextN (nextN (s.data.toList, false)))))))))) (nextN (nextN (nextN (nextN (nextN (nextS (nextN (nextN (nextN (s.data.toList, false))))))))))).1.length ≤ s.size + 1 := Nat.le_trans (many_count chg_length _ _) (by omega)
  clear q1 q2 q3 qA qB qC qD
  generalize nextN (s.data.toList, false) = s1 at *
  generalize nextN s1 = s2 at *
  generalize nextN s2 = s3 at *
  generalize nextS s3 = tA at *
  generalize nextN tA = tA1 at *
  generalize nextN tA1 = tB at *
  generalize nextN tB = tB1 at *
  generalize nextN tB1 = tC at *
  generalize nextN tC = tD at *
  generalize many opP.chg (valN tC) tD = M at *
  generalize valN (s.data.toList, false) = v0 at *
  generalize valN s1 = v1 at *
  generalize valN s2 = v2 at *
  generalize valS s3 = vs at *
  generalize valN tA = y0 at *
  generalize valN tA1 = y1 at *
  generalize valN tB = y2 at *
  generalize valN tB1 = y3 at *
  obtain ⟨q, cc, rfl⟩ := HO.out.slice
  have hx := heap_drew HX.out
  have hc := heap_drew HC.out
  obtain ⟨k_0, k_1, k_2, k_3, k_4, k_5, k_6, k_7, k_8, g_0, g_1, g_2, g_3, g_4, g_5, g_6, g_7, g_8, l_0⟩ := blk9 hx
  obtain ⟨j_0, jf_0, jl_0⟩ := blk1 hc
  have F0 := cellRule k_0
  have F1 := cellRule k_1
  have F2 := cellRule k_2
  have F3 := cellRule k_3
  have F4 := cellRule k_4
  have F5 := cellRule k_5
  have F6 := cellRule k_6
  have F7 := cellRule k_7
  have F8 := cellRule k_8
  have F9 := cellRule j_0
  clear j_0 jf_0 hx hc k_0 k_1 k_2 k_3 k_4 k_5 k_6 k_7 k_8 g_0 g_1 g_2 g_3 g_4 g_5 g_6 g_7 g_8
  have hcl : M.1.length ≤ 140737488355328 := by omega
  refine wp_region_held_drew (S := fun w' => Gr d1.drew w') (by kernel_rfl) (Gr.refl _) (fun hHeld => ?_)
  try dsimp only at hHeld
  refine wpAnyH_take (i := 0) rfl (by kernel_rfl) (by kernel_rfl) (by kernel_rfl) (fun _ _ _ h => h) (Or.inl ⟨by rfl, by intro w hSw; (try dsimp only at hSw); go_simp; (try with_reducible rfl)⟩) (by assumption) ?_; (try simp only [Act.put, List.setIfInBounds_toArray, List.set_cons_zero, List.set_cons_succ, List.getElem_toArray, List.getElem_cons_zero, List.getElem_cons_succ])
  refine wpAnyH_take (i := 1) rfl (by kernel_rfl) (by kernel_rfl) (by kernel_rfl) (fun _ _ _ h => h) (Or.inl ⟨by rfl, by intro w hSw; (try dsimp only at hSw); go_simp; (try with_reducible rfl)⟩) (by assumption) ?_; (try simp only [Act.put, List.setIfInBounds_toArray, List.set_cons_zero, List.set_cons_succ, List.getElem_toArray, List.getElem_cons_zero, List.getElem_cons_succ])
  refine wpAnyH_ready (rs := [2]) (by kernel_rfl) (by simp) ?_
  refine AllReadyH.cons rfl (fun K hK => ?_) AllReadyH.nil
  go_simp
  go_wp2_with (go_at_call 113; refine (checkIntent_any (⟨v0, v1, v2, ⟨vs.toArray⟩, y0, y1, y2, y3, M.1⟩ : Itt) (OwnG.rd encChg (by decide) (HO.out.gr (Gr.refl _).drew)) hcl).mono ?_; rintro e e1 ⟨rfl, hg1⟩)
  refine hK.out _ _ hg1 (fun _ => wpAnyH_turn hg1 (fun hHeld => ?_))
  clear hK K F0 F1 F2 F3 F4 F5 F6 F7 F8 F9
  try dsimp only at hHeld
  have hqn : M.2.1.length ≤ 140737488355320 := by have := HQ.out; omega
  refine wpAnyH_ready (rs := [3]) (by kernel_rfl) (by simp) ?_
  refine AllReadyH.cons rfl (fun K hK => ?_) AllReadyH.nil
  go_simp
  have HD := Lib.hid (rdone rfl (HR.out.gr ((Gr.refl d1).drew.trans hg1)) (okE (ittOk (⟨v0, v1, v2, ⟨vs.toArray⟩, y0, y1, y2, y3, M.1⟩ : Itt))) hqn)
  go_wp2_with (go_at_call 112; refine HD.out.mono ?_; rintro e e2 ⟨rfl, rfl⟩)
  clear HD
  refine hK.out _ _ (Gr.refl _) (fun hHeld => ?_)
  clear hK K
  try dsimp only at hHeld
  refine wpAnyH_take (i := 4) rfl (by kernel_rfl) (by kernel_rfl) (by kernel_rfl) (fun _ _ _ h => h) (Or.inl ⟨by rfl, by intro w hSw; (try dsimp only at hSw); go_simp; (try with_reducible rfl)⟩) (by assumption) ?_; (try simp only [Act.put, List.setIfInBounds_toArray, List.set_cons_zero, List.set_cons_succ, List.getElem_toArray, List.getElem_cons_zero, List.getElem_cons_succ])
  refine wpAnyH_done (by kernel_rfl) ?_ _
  clear hHeld
  have hge : Gr d1 e1 := (Gr.refl d1).drew.trans hg1
  have HXe := Lib.hid (hge.blk HX.out)
  have HOe := Lib.hid (HO.out.gr hge)
  have HGe := Lib.hid (HG.out.trans hge)
  clear HX HO HC HR HG hg1 hge
  obtain ⟨k_0, k_1, k_2, k_3, k_4, k_5, k_6, k_7, k_8, g_0, g_1, g_2, g_3, g_4, g_5, g_6, g_7, g_8, l_0⟩ := blk9 HXe.out
  have HH : Hid (takeIttR s.data.toList = if offE M.2 (okE (ittOk (⟨v0, v1, v2, ⟨vs.toArray⟩, y0, y1, y2, y3, M.1⟩ : Itt))) = 0 then some (⟨v0, v1, v2, ⟨vs.toArray⟩, y0, y1, y2, y3, M.1⟩ : Itt) else none) := HU
  rcases offE_cases M.2 (okE (ittOk (⟨v0, v1, v2, ⟨vs.toArray⟩, y0, y1, y2, y3, M.1⟩ : Itt))) with h0 | h0
  · have HRr : Hid (takeIttR s.data.toList = some (⟨v0, v1, v2, ⟨vs.toArray⟩, y0, y1, y2, y3, M.1⟩ : Itt)) := Lib.hid (by rw [HH.out, h0]; simp)
    rw [h0]
    clear HU HH h0
    go_wp2
    obtain ⟨z_0, z_1, z_2, z_3, z_4, z_5, z_6, z_7, z_8, _, _, _, _, _, _, _, _, _, _⟩ := blk9 (by simpa using (heap_set (heap_set (heap_set (heap_set (heap_set (heap_set (heap_set (heap_set (heap_set HXe.out 0 (.int .i64 v0)) 1 (.int .i64 v1)) 2 (.int .i64 v2)) 3 (.string ⟨vs.toArray⟩)) 4 (.int .i64 y0)) 5 (.int .i64 y1)) 6 (.int .i64 y2)) 7 (.int .i64 y3)) 8 (.slice q M.1.length cc)))
    have hgE := HGe.out
    refine bodyPost_ret (v := .tuple #[.agg #[.int .i64 v0, .int .i64 v1, .int .i64 v2, .string ⟨vs.toArray⟩, .int .i64 y0, .int .i64 y1, .int .i64 y2, .int .i64 y3, .slice q M.1.length cc], .int .i64 0]) (by simp [results, Tryz.results89, go_sem, z_0, z_1, z_2, z_3, z_4, z_5, z_6, z_7, z_8]) rfl ⟨.slice q M.1.length cc, by rw [HRr.out]; rfl, ?_, (by repeat (first | (with_reducible exact Gr.refl _) | (with_reducible assumption) | (with_reducible refine Gr.alloc ?_ _) | (with_reducible refine Gr.drew ?_) | (with_reducible refine Gr.drewN ?_ _) | (with_reducible refine Gr.trans ?_ (by assumption)) | (with_reducible refine Gr.setCell ?_ (by first | exact Nat.le_refl _ | omega | (simp; done) | (simp; omega)) _)))⟩
    rw [HRr.out]
    refine OwnG.rd encChg (by decide) (OwnG.kept HOe.out (fun g c f hgf => ?_))
    have n1 : w.heap.size ≠ g := by rintro rfl; rw [HXe.out] at hgf; simp at hgf
    exact (heap_set_other (heap_set_other (heap_set_other (heap_set_other (heap_set_other (heap_set_other (heap_set_other (heap_set_other (heap_set_other hgf ⟨w.heap.size, 0, none⟩ (.int .i64 v0) n1) ⟨w.heap.size, 1, none⟩ (.int .i64 v1) n1) ⟨w.heap.size, 2, none⟩ (.int .i64 v2) n1) ⟨w.heap.size, 3, none⟩ (.string ⟨vs.toArray⟩) n1) ⟨w.heap.size, 4, none⟩ (.int .i64 y0) n1) ⟨w.heap.size, 5, none⟩ (.int .i64 y1) n1) ⟨w.heap.size, 6, none⟩ (.int .i64 y2) n1) ⟨w.heap.size, 7, none⟩ (.int .i64 y3) n1) ⟨w.heap.size, 8, none⟩ (.slice q M.1.length cc) n1)
  · have HRr : Hid (takeIttR s.data.toList = none) := Lib.hid (by rw [HH.out, h0]; simp)
    rw [h0]
    clear HU HH h0
    go_wp2
    obtain ⟨z_0, z_1, z_2, z_3, z_4, z_5, z_6, z_7, z_8, _, _, _, _, _, _, _, _, _, _⟩ := blk9 (by simpa using (heap_set (heap_set (heap_set (heap_set (heap_set (heap_set (heap_set (heap_set (heap_set HXe.out 0 (.int .i64 0)) 1 (.int .i64 0)) 2 (.int .i64 0)) 3 (.string ⟨#[]⟩)) 4 (.int .i64 0)) 5 (.int .i64 0)) 6 (.int .i64 0)) 7 (.int .i64 0)) 8 (.slice none 0 0)))
    have hgE := HGe.out
    refine bodyPost_ret (v := .tuple #[.agg #[.int .i64 0, .int .i64 0, .int .i64 0, .string ⟨#[]⟩, .int .i64 0, .int .i64 0, .int .i64 0, .int .i64 0, .slice none 0 0], .int .i64 4]) (by simp [results, Tryz.results89, go_sem, z_0, z_1, z_2, z_3, z_4, z_5, z_6, z_7, z_8]) rfl ⟨.slice none 0 0, by rw [HRr.out]; rfl, ?_, (by repeat (first | (with_reducible exact Gr.refl _) | (with_reducible assumption) | (with_reducible refine Gr.alloc ?_ _) | (with_reducible refine Gr.drew ?_) | (with_reducible refine Gr.drewN ?_ _) | (with_reducible refine Gr.trans ?_ (by assumption)) | (with_reducible refine Gr.setCell ?_ (by first | exact Nat.le_refl _ | omega | (simp; done) | (simp; omega)) _)))⟩
    rw [HRr.out]
    exact .inl ⟨rfl, none, 0, rfl, by decide, fun _ => rfl⟩
end Go.Proofs.YthgecojbggoniaaGreatDoor
