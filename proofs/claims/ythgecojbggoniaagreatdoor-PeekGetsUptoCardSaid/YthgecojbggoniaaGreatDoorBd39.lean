/- What the rows stand on, part 39: TakE. Printed by bundle.py out of my texts. -/
import Derived.Test.YthgecojbggoniaaGreatDoorBd02
import Derived.Test.YthgecojbggoniaaGreatDoorBd13
import Derived.Test.YthgecojbggoniaaGreatDoorBd14
import Derived.Test.YthgecojbggoniaaGreatDoorBd15
import Derived.Test.YthgecojbggoniaaGreatDoorBd17
import Derived.Test.YthgecojbggoniaaGreatDoorBd30
import Derived.Test.YthgecojbggoniaaGreatDoorBd31
namespace Go.Proofs.YthgecojbggoniaaGreatDoor
open Go.RowKit
set_option maxRecDepth 100000
set_option linter.unusedVariables false
set_option linter.unusedSimpArgs false

/-- the document's taker at work: the result at R, the struct at X, the taker at B -/
structure Td (R X B : Nat) (rs cs : Array Value) (tX : TypeId) (s : St) (w0 w : World) : Prop where
  hRR : w.heap[R]? = some (.cells rs tX)
  hX : w.heap[X]? = some (.cells cs tX)
  hR : Rdr 135 B s w
  hG : Gr w0 w
  rx : R ≠ X
  rb : R ≠ B
  xb : X ≠ B
  nx : w0.heap.size ≤ X
  nb : w0.heap.size ≤ B
  tu : tX ≠ 5
theorem Td.fx {R X B : Nat} {rs cs : Array Value} {tX : TypeId} {s s' : St} {w0 w w' : World} (h : Td R X B rs cs tX s w0 w) (hF : Fx B w w') (hR : Rdr 135 B s' w') : Td R X B rs cs tX s' w0 w' :=
  ⟨hF.blk _ _ h.hRR h.rb, hF.blk _ _ h.hX h.xb, hR, Fx.toGr h.hG hF h.nb, h.rx, h.rb, h.xb, h.nx, h.nb, h.tu⟩
theorem Td.set {R X B : Nat} {rs cs : Array Value} {tX : TypeId} {s : St} {w0 w : World} (h : Td R X B rs cs tX s w0 w) (i : Nat) (u : Value) : Td R X B rs (cs.setIfInBounds i u) tX s w0 (w.setCell ⟨X, i, none⟩ u) :=
  ⟨heap_set_other h.hRR _ _ h.rx.symm, heap_set h.hX i u, h.hR.setX h.hX h.xb h.tu, h.hG.setCell h.nx _, h.rx, h.rb, h.xb, h.nx, h.nb, h.tu⟩
theorem Td.cs {R X B : Nat} {rs cs cs' : Array Value} {tX : TypeId} {s : St} {w0 w : World} (h : Td R X B rs cs tX s w0 w) (e : cs = cs') : Td R X B rs cs' tX s w0 w := e ▸ h
theorem Td.drew {R X B : Nat} {rs cs : Array Value} {tX : TypeId} {s : St} {w0 w : World} (h : Td R X B rs cs tX s w0 w) : Td R X B rs cs tX s w0 w.drew :=
  ⟨heap_drew h.hRR, heap_drew h.hX, h.hR.gr (Gr.refl _).drew, h.hG.drew, h.rx, h.rb, h.xb, h.nx, h.nb, h.tu⟩
theorem dchg_length (s : St) : (opD.chg s).2.1.length ≤ s.1.length := by
  have h1 := dnextN_length s
  have h2 := dnextF_length (dnextN s)
  have h3 := dnextS_length (dnextF (dnextN s))
  simp only [Ops.chg, opD]; omega
set_option maxHeartbeats 8000000 in
theorem refTakeIntent_any (s : ByteArray) (hs : s.size ≤ 4398046511000) (w : World) :
    Calls Tryz.prog 98 #[.string s] w fun e w' => ∃ v, e = .returned (.tuple #[.agg #[.int .i64 (ittOut (takeIttR s.data.toList)).1.id, .int .i64 (ittOut (takeIttR s.data.toList)).1.epoch, .int .i64 (ittOut (takeIttR s.data.toList)).1.prio, .string (ittOut (takeIttR s.data.toList)).1.anchor, .int .i64 (ittOut (takeIttR s.data.toList)).1.sw, .int .i64 (ittOut (takeIttR s.data.toList)).1.sl, .int .i64 (ittOut (takeIttR s.data.toList)).1.bw, .int .i64 (ittOut (takeIttR s.data.toList)).1.bl, v], .int .i64 (ittOut (takeIttR s.data.toList)).2])
      ∧ RdC w' v (ittOut (takeIttR s.data.toList)).1.l ∧ Gr w w' := by
  have hl : s.data.toList.length = s.size := Array.length_toList
  have hcv := fun (w : World) => Lib.run_convert_string_bytes (P := Tryz.prog) w 9 133 5 s Tryz.underlying9 Tryz.underlying133 Tryz.underlying5
  have hsz := Lib.bytesWorld_size (w.alloc (.cells #[.int .i64 0, .int .i64 0, .int .i64 0, .string ⟨#[]⟩, .int .i64 0, .int .i64 0, .int .i64 0, .int .i64 0, .slice none 0 0] 40)) 5 s
  have hgr := bytesWorld_gr (w.alloc (.cells #[.int .i64 0, .int .i64 0, .int .i64 0, .string ⟨#[]⟩, .int .i64 0, .int .i64 0, .int .i64 0, .int .i64 0, .slice none 0 0] 40)) 5 s
  have q0 : ((s.data.toList, false) : St).1.length ≤ s.size := by rw [← hl]; exact Nat.le_refl _
  have q1 : (dnextN (s.data.toList, false)).1.length ≤ s.size := Nat.le_trans (dnextN_length _) q0
  have q2 : (dnextN (dnextN (s.data.toList, false))).1.length ≤ s.size := Nat.le_trans (dnextN_length _) q1
  have q3 : (dnextN (dnextN (dnextN (s.data.toList, false)))).1.length ≤ s.size := Nat.le_trans (dnextN_length _) q2
  have qA : (dnextS (dnextN (dnextN (dnextN (s.data.toList, false))))).1.length ≤ s.size := Nat.le_trans (dnextS_length _) q3
  have qB : (dnextN (dnextN (dnextS (dnextN (dnextN (dnextN (s.data.toList, false))))))).1.length ≤ s.size := Nat.le_trans (dnextN_length _) (Nat.le_trans (dnextN_length _) qA)
  have qC : (dnextN (dnextN (dnextN (dnextN (dnextS (dnextN (dnextN (dnextN (s.data.toList, false))))))))).1.length ≤ s.size := Nat.le_trans (dnextN_length _) (Nat.le_trans (dnextN_length _) qB)
  have qD : (dnextN (dnextN (dnextN (dnextN (dnextN (dnextS (dnextN (dnextN (dnextN (s.data.toList, false)))))))))).1.length ≤ s.size := Nat.le_trans (dnextN_length _) qC
  have HU : Hid (takeIttR s.data.toList = if endB (many opD.chg (min (dvalN (dnextN (dnextN (dnextN (dnextN (dnextS (dnextN (dnextN (dnextN (s.data.toList, false)))))))))) 17) (dnextN (dnextN (dnextN (dnextN (dnextN (dnextS (dnextN (dnextN (dnextN (s.data.toList, false))))))))))).2 = true ∧ dvalN (dnextN (dnextN (dnextN (dnextN (dnextS (dnextN (dnextN (dnextN (s.data.toList, false))))))))) = (many opD.chg (min (dvalN (dnextN (dnextN (dnextN (dnextN (dnextS (dnextN (dnextN (dnextN (s.data.toList, false)))))))))) 17) (dnextN (dnextN (dnextN (dnextN (dnextN (dnextS (dnextN (dnextN (dnextN (s.data.toList, false))))))))))).1.length ∧ ittOk (⟨dvalN (s.data.toList, false), dvalN (dnextN (s.data.toList, false)), dvalN (dnextN (dnextN (s.data.toList, false))), ⟨(dvalS (dnextN (dnextN (dnextN (s.data.toList, false))))).toArray⟩, dvalN (dnextS (dnextN (dnextN (dnextN (s.data.toList, false))))), dvalN (dnextN (dnextS (dnextN (dnextN (dnextN (s.data.toList, false)))))), dvalN (dnextN (dnextN (dnextS (dnextN (dnextN (dnextN (s.data.toList, false))))))), dvalN (dnextN (dnextN (dnextN (dnextS (dnextN (dnextN (dnextN (s.data.toList, false)))))))), (many opD.chg (min (dvalN (dnextN (dnextN (dnextN (dnextN (dnextS (dnextN (dnextN (dnextN (s.data.toList, false)))))))))) 17) (dnextN (dnextN (dnextN (dnextN (dnextN (dnextS (dnextN (dnextN (dnextN (s.data.toList, false))))))))))).1⟩ : Itt) = true then some (⟨dvalN (s.data.toList, false), dvalN (dnextN (s.data.toList, false)), dvalN (dnextN (dnextN (s.data.toList, false))), ⟨(dvalS (dnextN (dnextN (dnextN (s.data.toList, false))))).toArray⟩, dvalN (dnextS (dnextN (dnextN (dnextN (s.data.toList, false))))), dvalN (dnextN (dnextS (dnextN (dnextN (dnextN (s.data.toList, false)))))), dvalN (dnextN (dnextN (dnextS (dnextN (dnextN (dnextN (s.data.toList, false))))))), dvalN (dnextN (dnextN (dnextN (dnextS (dnextN (dnextN (dnextN (s.data.toList, false)))))))), (many opD.chg (min (dvalN (dnextN (dnextN (dnextN (dnextN (dnextS (dnextN (dnextN (dnextN (s.data.toList, false)))))))))) 17) (dnextN (dnextN (dnextN (dnextN (dnextN (dnextS (dnextN (dnextN (dnextN (s.data.toList, false))))))))))).1⟩ : Itt) else none) := Lib.hid (takeItt_eq _).symm
  have HT : Hid (Td w.heap.size (w.heap.size + 1 + 1 + 1) (w.heap.size + 1 + 1) #[.int .i64 0, .int .i64 0, .int .i64 0, .string ⟨#[]⟩, .int .i64 0, .int .i64 0, .int .i64 0, .int .i64 0, .slice none 0 0] #[.int .i64 0, .int .i64 0, .int .i64 0, .string ⟨#[]⟩, .int .i64 0, .int .i64 0, .int .i64 0, .int .i64 0, .slice none 0 0] 40 (s.data.toList, false) w (((Lib.bytesWorld (w.alloc (.cells #[.int .i64 0, .int .i64 0, .int .i64 0, .string ⟨#[]⟩, .int .i64 0, .int .i64 0, .int .i64 0, .int .i64 0, .slice none 0 0] 40)) 5 s).alloc (.cells #[.slice (some ⟨w.heap.size + 1, 0, none⟩) s.size (grownCap (w.alloc (.cells #[.int .i64 0, .int .i64 0, .int .i64 0, .string ⟨#[]⟩, .int .i64 0, .int .i64 0, .int .i64 0, .int .i64 0, .slice none 0 0] 40)) s.size 0 5), .bool false] 135)).alloc (.cells #[.int .i64 0, .int .i64 0, .int .i64 0, .string ⟨#[]⟩, .int .i64 0, .int .i64 0, .int .i64 0, .int .i64 0, .slice none 0 0] 40))) := Lib.hid ⟨heap_alloc_mono (heap_alloc_mono (hgr.blk (heap_alloc_new _ _)) _) _, heap_newn (by simp [hsz]), (Rdr.bytes _ _ s (by omega) (by simp) (by simp)).gr ((Gr.refl _).alloc _), (((((Gr.refl w).alloc _).trans hgr).alloc _).alloc _), by omega, by omega, by omega, by omega, by omega, by decide⟩
  go_enter Tryz.func98, Tryz.ntmps98
  go_wp2_with fail
  generalize (((Lib.bytesWorld (w.alloc (.cells #[.int .i64 0, .int .i64 0, .int .i64 0, .string ⟨#[]⟩, .int .i64 0, .int .i64 0, .int .i64 0, .int .i64 0, .slice none 0 0] 40)) 5 s).alloc (.cells #[.slice (some ⟨w.heap.size + 1, 0, none⟩) s.size (grownCap (w.alloc (.cells #[.int .i64 0, .int .i64 0, .int .i64 0, .string ⟨#[]⟩, .int .i64 0, .int .i64 0, .int .i64 0, .int .i64 0, .slice none 0 0] 40)) s.size 0 5), .bool false] 135)).alloc (.cells #[.int .i64 0, .int .i64 0, .int .i64 0, .string ⟨#[]⟩, .int .i64 0, .int .i64 0, .int .i64 0, .int .i64 0, .slice none 0 0] 40)) = a at HT ⊢
  clear hcv hsz hgr
  refine (tnum HT.out.hR (by first | omega | (simp only; omega))).mono ?_
  rintro e u ⟨rfl, hr, hF⟩
  have HT1 := Lib.hid (HT.out.fx hF hr)
  clear hr hF HT
  obtain ⟨k_0, k_1, k_2, k_3, k_4, k_5, k_6, k_7, k_8, g_0, g_1, g_2, g_3, g_4, g_5, g_6, g_7, g_8, l_0⟩ := blk9 HT1.out.hX
  go_wp2_with fail
  clear l_0 k_0 k_1 k_2 k_3 k_4 k_5 k_6 k_7 k_8 g_0 g_1 g_2 g_3 g_4 g_5 g_6 g_7 g_8
  have HT : Hid (Td w.heap.size (w.heap.size + 1 + 1 + 1) (w.heap.size + 1 + 1) #[.int .i64 0, .int .i64 0, .int .i64 0, .string ⟨#[]⟩, .int .i64 0, .int .i64 0, .int .i64 0, .int .i64 0, .slice none 0 0] #[.int .i64 (dvalN (s.data.toList, false)), .int .i64 0, .int .i64 0, .string ⟨#[]⟩, .int .i64 0, .int .i64 0, .int .i64 0, .int .i64 0, .slice none 0 0] 40 (dnextN (s.data.toList, false)) w (u.setCell ⟨w.heap.size + 1 + 1 + 1, 0, none⟩ (.int .i64 (dvalN (s.data.toList, false))))) := Lib.hid ((HT1.out.set 0 (.int .i64 (dvalN (s.data.toList, false)))).cs (by simp))
  clear HT1
  generalize (u.setCell ⟨w.heap.size + 1 + 1 + 1, 0, none⟩ (.int .i64 (dvalN (s.data.toList, false)))) = b at HT ⊢
  refine (tnum HT.out.hR (by first | omega | (simp only; omega))).mono ?_
  rintro e u ⟨rfl, hr, hF⟩
  have HT1 := Lib.hid (HT.out.fx hF hr)
  clear hr hF HT
  obtain ⟨k_0, k_1, k_2, k_3, k_4, k_5, k_6, k_7, k_8, g_0, g_1, g_2, g_3, g_4, g_5, g_6, g_7, g_8, l_0⟩ := blk9 HT1.out.hX
  go_wp2_with fail
  clear l_0 k_0 k_1 k_2 k_3 k_4 k_5 k_6 k_7 k_8 g_0 g_1 g_2 g_3 g_4 g_5 g_6 g_7 g_8
  have HT : Hid (Td w.heap.size (w.heap.size + 1 + 1 + 1) (w.heap.size + 1 + 1) #[.int .i64 0, .int .i64 0, .int .i64 0, .string ⟨#[]⟩, .int .i64 0, .int .i64 0, .int .i64 0, .int .i64 0, .slice none 0 0] #[.int .i64 (dvalN (s.data.toList, false)), .int .i64 (dvalN (dnextN (s.data.toList, false))), .int .i64 0, .string ⟨#[]⟩, .int .i64 0, .int .i64 0, .int .i64 0, .int .i64 0, .slice none 0 0] 40 (dnextN (dnextN (s.data.toList, false))) w (u.setCell ⟨w.heap.size + 1 + 1 + 1, 1, none⟩ (.int .i64 (dvalN (dnextN (s.data.toList, false)))))) := Lib.hid ((HT1.out.set 1 (.int .i64 (dvalN (dnextN (s.data.toList, false))))).cs (by simp))
  clear HT1
  generalize (u.setCell ⟨w.heap.size + 1 + 1 + 1, 1, none⟩ (.int .i64 (dvalN (dnextN (s.data.toList, false))))) = b at HT ⊢
  refine (tnum HT.out.hR (by first | omega | (simp only; omega))).mono ?_
  rintro e u ⟨rfl, hr, hF⟩
  have HT1 := Lib.hid (HT.out.fx hF hr)
  clear hr hF HT
  obtain ⟨k_0, k_1, k_2, k_3, k_4, k_5, k_6, k_7, k_8, g_0, g_1, g_2, g_3, g_4, g_5, g_6, g_7, g_8, l_0⟩ := blk9 HT1.out.hX
  go_wp2_with fail
  clear l_0 k_0 k_1 k_2 k_3 k_4 k_5 k_6 k_7 k_8 g_0 g_1 g_2 g_3 g_4 g_5 g_6 g_7 g_8
  have HT : Hid (Td w.heap.size (w.heap.size + 1 + 1 + 1) (w.heap.size + 1 + 1) #[.int .i64 0, .int .i64 0, .int .i64 0, .string ⟨#[]⟩, .int .i64 0, .int .i64 0, .int .i64 0, .int .i64 0, .slice none 0 0] #[.int .i64 (dvalN (s.data.toList, false)), .int .i64 (dvalN (dnextN (s.data.toList, false))), .int .i64 (dvalN (dnextN (dnextN (s.data.toList, false)))), .string ⟨#[]⟩, .int .i64 0, .int .i64 0, .int .i64 0, .int .i64 0, .slice none 0 0] 40 (dnextN (dnextN (dnextN (s.data.toList, false)))) w (u.setCell ⟨w.heap.size + 1 + 1 + 1, 2, none⟩ (.int .i64 (dvalN (dnextN (dnextN (s.data.toList, false))))))) := Lib.hid ((HT1.out.set 2 (.int .i64 (dvalN (dnextN (dnextN (s.data.toList, false)))))).cs (by simp))
  clear HT1
  generalize (u.setCell ⟨w.heap.size + 1 + 1 + 1, 2, none⟩ (.int .i64 (dvalN (dnextN (dnextN (s.data.toList, false)))))) = b at HT ⊢
  refine (tstr HT.out.hR (by first | omega | (simp only; omega))).mono ?_
  rintro e u ⟨rfl, hr, hF⟩
  have HT1 := Lib.hid (HT.out.fx hF hr)
  clear hr hF HT
  obtain ⟨k_0, k_1, k_2, k_3, k_4, k_5, k_6, k_7, k_8, g_0, g_1, g_2, g_3, g_4, g_5, g_6, g_7, g_8, l_0⟩ := blk9 HT1.out.hX
  go_wp2_with fail
  clear l_0 k_0 k_1 k_2 k_3 k_4 k_5 k_6 k_7 k_8 g_0 g_1 g_2 g_3 g_4 g_5 g_6 g_7 g_8
  have HT : Hid (Td w.heap.size (w.heap.size + 1 + 1 + 1) (w.heap.size + 1 + 1) #[.int .i64 0, .int .i64 0, .int .i64 0, .string ⟨#[]⟩, .int .i64 0, .int .i64 0, .int .i64 0, .int .i64 0, .slice none 0 0] #[.int .i64 (dvalN (s.data.toList, false)), .int .i64 (dvalN (dnextN (s.data.toList, false))), .int .i64 (dvalN (dnextN (dnextN (s.data.toList, false)))), .string ⟨(dvalS (dnextN (dnextN (dnextN (s.data.toList, false))))).toArray⟩, .int .i64 0, .int .i64 0, .int .i64 0, .int .i64 0, .slice none 0 0] 40 (dnextS (dnextN (dnextN (dnextN (s.data.toList, false))))) w (u.setCell ⟨w.heap.size + 1 + 1 + 1, 3, none⟩ (.string ⟨(dvalS (dnextN (dnextN (dnextN (s.data.toList, false))))).toArray⟩))) := Lib.hid ((HT1.out.set 3 (.string ⟨(dvalS (dnextN (dnextN (dnextN (s.data.toList, false))))).toArray⟩)).cs (by simp))
  clear HT1
  generalize (u.setCell ⟨w.heap.size + 1 + 1 + 1, 3, none⟩ (.string ⟨(dvalS (dnextN (dnextN (dnextN (s.data.toList, false))))).toArray⟩)) = b at HT ⊢
  refine (tstamp HT.out.hR (by first | omega | (simp only; omega))).mono ?_
  rintro e u ⟨rfl, hr, hF⟩
  have HT1 := Lib.hid (HT.out.fx hF hr)
  clear hr hF HT
  obtain ⟨k_0, k_1, k_2, k_3, k_4, k_5, k_6, k_7, k_8, g_0, g_1, g_2, g_3, g_4, g_5, g_6, g_7, g_8, l_0⟩ := blk9 HT1.out.hX
  go_wp2_with fail
  clear l_0 k_0 k_1 k_2 k_3 k_4 k_5 k_6 k_7 k_8 g_0 g_1 g_2 g_3 g_4 g_5 g_6 g_7 g_8
  have HT : Hid (Td w.heap.size (w.heap.size + 1 + 1 + 1) (w.heap.size + 1 + 1) #[.int .i64 0, .int .i64 0, .int .i64 0, .string ⟨#[]⟩, .int .i64 0, .int .i64 0, .int .i64 0, .int .i64 0, .slice none 0 0] #[.int .i64 (dvalN (s.data.toList, false)), .int .i64 (dvalN (dnextN (s.data.toList, false))), .int .i64 (dvalN (dnextN (dnextN (s.data.toList, false)))), .string ⟨(dvalS (dnextN (dnextN (dnextN (s.data.toList, false))))).toArray⟩, .int .i64 (dvalN (dnextS (dnextN (dnextN (dnextN (s.data.toList, false)))))), .int .i64 (dvalN (dnextN (dnextS (dnextN (dnextN (dnextN (s.data.toList, false))))))), .int .i64 0, .int .i64 0, .slice none 0 0] 40 (dnextN (dnextN (dnextS (dnextN (dnextN (dnextN (s.data.toList, false))))))) w ((u.setCell ⟨w.heap.size + 1 + 1 + 1, 4, none⟩ (.int .i64 (dvalN (dnextS (dnextN (dnextN (dnextN (s.data.toList, false)))))))).setCell ⟨w.heap.size + 1 + 1 + 1, 5, none⟩ (.int .i64 (dvalN (dnextN (dnextS (dnextN (dnextN (dnextN (s.data.toList, false)))))))))) := Lib.hid (((HT1.out.set 4 (.int .i64 (dvalN (dnextS (dnextN (dnextN (dnextN (s.data.toList, false)))))))).set 5 (.int .i64 (dvalN (dnextN (dnextS (dnextN (dnextN (dnextN (s.data.toList, false))))))))).cs (by simp))
  clear HT1
  generalize ((u.setCell ⟨w.heap.size + 1 + 1 + 1, 4, none⟩ (.int .i64 (dvalN (dnextS (dnextN (dnextN (dnextN (s.data.toList, false)))))))).setCell ⟨w.heap.size + 1 + 1 + 1, 5, none⟩ (.int .i64 (dvalN (dnextN (dnextS (dnextN (dnextN (dnextN (s.data.toList, false))))))))) = b at HT ⊢
  refine (tstamp HT.out.hR (by first | omega | (simp only; omega))).mono ?_
  rintro e u ⟨rfl, hr, hF⟩
  have HT1 := Lib.hid (HT.out.fx hF hr)
  clear hr hF HT
  obtain ⟨k_0, k_1, k_2, k_3, k_4, k_5, k_6, k_7, k_8, g_0, g_1, g_2, g_3, g_4, g_5, g_6, g_7, g_8, l_0⟩ := blk9 HT1.out.hX
  go_wp2_with fail
  clear l_0 k_0 k_1 k_2 k_3 k_4 k_5 k_6 k_7 k_8 g_0 g_1 g_2 g_3 g_4 g_5 g_6 g_7 g_8
  have HT : Hid (Td w.heap.size (w.heap.size + 1 + 1 + 1) (w.heap.size + 1 + 1) #[.int .i64 0, .int .i64 0, .int .i64 0, .string ⟨#[]⟩, .int .i64 0, .int .i64 0, .int .i64 0, .int .i64 0, .slice none 0 0] #[.int .i64 (dvalN (s.data.toList, false)), .int .i64 (dvalN (dnextN (s.data.toList, false))), .int .i64 (dvalN (dnextN (dnextN (s.data.toList, false)))), .string ⟨(dvalS (dnextN (dnextN (dnextN (s.data.toList, false))))).toArray⟩, .int .i64 (dvalN (dnextS (dnextN (dnextN (dnextN (s.data.toList, false)))))), .int .i64 (dvalN (dnextN (dnextS (dnextN (dnextN (dnextN (s.data.toList, false))))))), .int .i64 (dvalN (dnextN (dnextN (dnextS (dnextN (dnextN (dnextN (s.data.toList, false)))))))), .int .i64 (dvalN (dnextN (dnextN (dnextN (dnextS (dnextN (dnextN (dnextN (s.data.toList, false))))))))), .slice none 0 0] 40 (dnextN (dnextN (dnextN (dnextN (dnextS (dnextN (dnextN (dnextN (s.data.toList, false))))))))) w ((u.setCell ⟨w.heap.size + 1 + 1 + 1, 6, none⟩ (.int .i64 (dvalN (dnextN (dnextN (dnextS (dnextN (dnextN (dnextN (s.data.toList, false)))))))))).setCell ⟨w.heap.size + 1 + 1 + 1, 7, none⟩ (.int .i64 (dvalN (dnextN (dnextN (dnextN (dnextS (dnextN (dnextN (dnextN (s.data.toList, false)))))))))))) := Lib.hid (((HT1.out.set 6 (.int .i64 (dvalN (dnextN (dnextN (dnextS (dnextN (dnextN (dnextN (s.data.toList, false)))))))))).set 7 (.int .i64 (dvalN (dnextN (dnextN (dnextN (dnextS (dnextN (dnextN (dnextN (s.data.toList, false))))))))))).cs (by simp))
  clear HT1
  generalize ((u.setCell ⟨w.heap.size + 1 + 1 + 1, 6, none⟩ (.int .i64 (dvalN (dnextN (dnextN (dnextS (dnextN (dnextN (dnextN (s.data.toList, false)))))))))).setCell ⟨w.heap.size + 1 + 1 + 1, 7, none⟩ (.int .i64 (dvalN (dnextN (dnextN (dnextN (dnextS (dnextN (dnextN (dnextN (s.data.toList, false))))))))))) = b at HT ⊢
  refine (tnum HT.out.hR (by first | omega | (simp only; omega))).mono ?_
  rintro e u ⟨rfl, hr, hF⟩
  have HT1 := Lib.hid (HT.out.fx hF hr)
  clear hr hF HT
  obtain ⟨k_0, k_1, k_2, k_3, k_4, k_5, k_6, k_7, k_8, g_0, g_1, g_2, g_3, g_4, g_5, g_6, g_7, g_8, l_0⟩ := blk9 HT1.out.hX
  go_wp2_with fail
  clear l_0 k_0 k_1 k_2 k_3 k_4 k_5 k_6 k_7 k_8 g_0 g_1 g_2 g_3 g_4 g_5 g_6 g_7 g_8
  have HT : Hid (Td w.heap.size (w.heap.size + 1 + 1 + 1) (w.heap.size + 1 + 1) #[.int .i64 0, .int .i64 0, .int .i64 0, .string ⟨#[]⟩, .int .i64 0, .int .i64 0, .int .i64 0, .int .i64 0, .slice none 0 0] #[.int .i64 (dvalN (s.data.toList, false)), .int .i64 (dvalN (dnextN (s.data.toList, false))), .int .i64 (dvalN (dnextN (dnextN (s.data.toList, false)))), .string ⟨(dvalS (dnextN (dnextN (dnextN (s.data.toList, false))))).toArray⟩, .int .i64 (dvalN (dnextS (dnextN (dnextN (dnextN (s.data.toList, false)))))), .int .i64 (dvalN (dnextN (dnextS (dnextN (dnextN (dnextN (s.data.toList, false))))))), .int .i64 (dvalN (dnextN (dnextN (dnextS (dnextN (dnextN (dnextN (s.data.toList, false)))))))), .int .i64 (dvalN (dnextN (dnextN (dnextN (dnextS (dnextN (dnextN (dnextN (s.data.toList, false))))))))), .slice none 0 0] 40 (dnextN (dnextN (dnextN (dnextN (dnextN (dnextS (dnextN (dnextN (dnextN (s.data.toList, false)))))))))) w u) := Lib.hid (HT1.out)
  clear HT1
  generalize u = b at HT ⊢
  clear q0 q1 q2 q3 qA qB qC
  generalize dnextN (s.data.toList, false) = s1 at *
  generalize dnextN s1 = s2 at *
  generalize dnextN s2 = s3 at *
  generalize dnextS s3 = tA at *
  generalize dnextN tA = tA1 at *
  generalize dnextN tA1 = tB at *
  generalize dnextN tB = tB1 at *
  generalize dnextN tB1 = tC at *
  generalize dnextN tC = tD at *
  generalize dvalN tC = n at *
  generalize hM0 : many opD.chg (min n 17) tD = M at *
  have HM0 := Lib.hid hM0
  clear hM0
  generalize dvalN (s.data.toList, false) = v0 at *
  generalize dvalN s1 = v1 at *
  generalize dvalN s2 = v2 at *
  generalize dvalS s3 = vs at *
  generalize dvalN tA = y0 at *
  generalize dvalN tA1 = y1 at *
  generalize dvalN tB = y2 at *
  generalize dvalN tB1 = y3 at *
  replace HU : Hid (takeIttR s.data.toList = if endB M.2 = true ∧ n = M.1.length ∧ ittOk (⟨v0, v1, v2, ⟨vs.toArray⟩, y0, y1, y2, y3, M.1⟩ : Itt) = true then some (⟨v0, v1, v2, ⟨vs.toArray⟩, y0, y1, y2, y3, M.1⟩ : Itt) else none) := HU
  have HM : Hid (∀ m t, many opD.chg (m + 1) t = if t.2 = true then ([], t) else ((opD.chg t).1 :: (many opD.chg m (opD.chg t).2).1, (many opD.chg m (opD.chg t).2).2)) := Lib.hid (fun _ _ => rfl)
  have HL := Lib.hid (dchg_length)
  have HR0 := Lib.hid HT.out.hRR
  go_loopw [7] (fun v wr => ∃ (j m : Nat) (s' : St) (l' : List Chg) (vl : Value), v = .int .i64 j ∧ j + m = min n 17 ∧ Hid (M = (l' ++ (many opD.chg m s').1, (many opD.chg m s').2)) ∧ l'.length ≤ j ∧ s'.1.length ≤ s.size
      ∧ Hid (wr.heap[w.heap.size + 1 + 1 + 1]? = some (.cells #[.int .i64 v0, .int .i64 v1, .int .i64 v2, .string ⟨vs.toArray⟩, .int .i64 y0, .int .i64 y1, .int .i64 y2, .int .i64 y3, vl] 40)) ∧ Hid (OwnG 76 3 chgCells wr w.heap.size vl l') ∧ Hid (wr.heap[w.heap.size]? = some (.cells #[.int .i64 0, .int .i64 0, .int .i64 0, .string ⟨#[]⟩, .int .i64 0, .int .i64 0, .int .i64 0, .int .i64 0, .slice none 0 0] 40)) ∧ Hid (Rdr 135 (w.heap.size + 1 + 1) s' wr) ∧ Hid (Gr w wr)) (fun v _ => 17 - (intOf v).toNat)
  case atStart => exact ⟨0, min n 17, tD, [], _, rfl, by omega, Lib.hid (by rw [← HM0.out]; rfl), by simp, qD, Lib.hid HT.out.hX, Lib.hid (OwnG.nil _ _), Lib.hid HT.out.hRR, Lib.hid HT.out.hR, Lib.hid HT.out.hG⟩
  case round =>
    obtain ⟨j, m, s', l', vl, rfl, hjm, HE, hlj, hsl, HX2, HO2, HR2, HT2, HG2⟩ := hrel
    clear HT HM0 HR0
    have hXB : w.heap.size + 1 + 1 + 1 ≠ w.heap.size + 1 + 1 := by omega
    obtain ⟨⟨vb, hvb, _⟩, _⟩ := HT2.out
    obtain ⟨r_0, r_1, rf_0, rf_1, rl_0⟩ := blk2 hvb
    clear hvb
    obtain ⟨ls, bb⟩ := s'
    obtain ⟨q, cc, rfl⟩ := HO2.out.slice
    by_cases hgo : 0 < m ∧ bb = false
    · obtain ⟨hm0, rfl⟩ := hgo
      obtain ⟨m, rfl⟩ : ∃ m', m = m' + 1 := ⟨m - 1, by omega⟩
      have HE2 : Hid (M = ((l' ++ [(opD.chg (ls, false)).1]) ++ (many opD.chg m (opD.chg (ls, false)).2).1, (many opD.chg m (opD.chg (ls, false)).2).2)) := Lib.hid (by rw [HE.out, HM.out, if_neg (by simp)]; simp)
      have hll := HL.out (ls, false)
      have hjn : j < n := by omega
      have hj17 : j < 17 := by omega
      clear HE
      go_wp2_with fail
      clear r_0 r_1 rf_0 rf_1
      refine (tnum HT2.out (by first | omega | (simp only; omega))).mono ?_
      rintro e p0 ⟨rfl, hr, hF⟩
      have HTp0 := Lib.hid hr
      have HFF := Lib.hid hF
      clear hr hF
      have hq0 : (dnextN (ls, false)).1.length ≤ s.size := Nat.le_trans (dnextN_length _) hsl
      go_wp2_with fail
      refine (tflag HTp0.out (by first | omega | (simp only; omega))).mono ?_
      rintro e p1 ⟨rfl, hr, hF⟩
      have HTp1 := Lib.hid hr
      have HFF := Lib.hid (HFF.out.trans hF)
      clear hr hF
      have hq1 : (dnextF (dnextN (ls, false))).1.length ≤ s.size := Nat.le_trans (dnextF_length _) hq0
      go_wp2_with fail
      have HXp := Lib.hid (heap_drew (HFF.out.blk _ _ HX2.out hXB))
      have HRp := Lib.hid (heap_drew (HFF.out.blk _ _ HR2.out (by omega)))
      have HOp : Hid (OwnG 76 3 chgCells p1.drew w.heap.size (.slice q l'.length cc) l') := Lib.hid (HO2.out.kept (fun g c f hg => heap_drew (HFF.out.blk _ _ hg (by rintro rfl; obtain ⟨⟨v, h1, _⟩, _⟩ := HT2.out; rw [hg] at h1; simp at h1))))
      have HGp : Hid (Gr w p1.drew) := Lib.hid (Fx.toGr HG2.out HFF.out (by omega)).drew
      clear HX2 HO2 HR2 HG2 HFF
      obtain ⟨k_0, k_1, k_2, k_3, k_4, k_5, k_6, k_7, k_8, g_0, g_1, g_2, g_3, g_4, g_5, g_6, g_7, g_8, l_0⟩ := blk9 HXp.out
      have F0 := cellRuleF (B := (w.heap.size + 1 + 1)) (by exact hXB) k_8
      clear l_0 k_0 k_1 k_2 k_3 k_4 k_5 k_6 k_7 k_8 g_0 g_1 g_2 g_3 g_4 g_5 g_6 g_7 g_8
      refine wp_region_T (S := fun w' => Fx (w.heap.size + 1 + 1) p1.drew w') [8, 9, 10] (by kernel_rfl) (Fx.refl _ _) (fun hHeld => ?_)
      try dsimp only at hHeld
      refine wpAnyT_take (i := 0) rfl (by kernel_rfl) (by kernel_rfl) (by kernel_rfl) (by kernel_rfl) (fun _ _ _ h => h) (Or.inl ⟨by rfl, by intro w hSw; (try dsimp only at hSw); go_simp; (try with_reducible rfl)⟩) (by assumption) ?_; (try simp only [Act.put, List.setIfInBounds_toArray, List.set_cons_zero, List.set_cons_succ, List.getElem_toArray, List.getElem_cons_zero, List.getElem_cons_succ])
      refine wpAnyT_take (i := 1) rfl (by kernel_rfl) (by kernel_rfl) (by kernel_rfl) (by kernel_rfl) (fun _ _ _ h => h) (Or.inl ⟨by rfl, by intro w hSw; (try dsimp only at hSw); go_simp; (try with_reducible rfl)⟩) (by assumption) ?_; (try simp only [Act.put, List.setIfInBounds_toArray, List.set_cons_zero, List.set_cons_succ, List.getElem_toArray, List.getElem_cons_zero, List.getElem_cons_succ])
      refine wpAnyT_take (i := 2) rfl (by kernel_rfl) (by kernel_rfl) (by kernel_rfl) (by kernel_rfl) (fun _ _ _ h => h) (Or.inl ⟨by rfl, by intro w hSw; (try dsimp only at hSw); go_simp; (try with_reducible rfl)⟩) (by assumption) ?_; (try simp only [Act.put, List.setIfInBounds_toArray, List.set_cons_zero, List.set_cons_succ, List.getElem_toArray, List.getElem_cons_zero, List.getElem_cons_succ])
      refine wpAnyT_take (i := 3) rfl (by kernel_rfl) (by kernel_rfl) (by kernel_rfl) (by kernel_rfl) (fun _ _ _ h => h) (Or.inl ⟨by rfl, by intro w hSw; (try dsimp only at hSw); go_simp; (try with_reducible rfl)⟩) (by assumption) ?_; (try simp only [Act.put, List.setIfInBounds_toArray, List.set_cons_zero, List.set_cons_succ, List.getElem_toArray, List.getElem_cons_zero, List.getElem_cons_succ])
      refine wpAnyT_take (i := 4) rfl (by kernel_rfl) (by kernel_rfl) (by kernel_rfl) (by kernel_rfl) (fun _ _ _ h => h) (Or.inl ⟨by rfl, by intro w hSw; (try dsimp only at hSw); go_simp; (try with_reducible rfl)⟩) (by assumption) ?_; (try simp only [Act.put, List.setIfInBounds_toArray, List.set_cons_zero, List.set_cons_succ, List.getElem_toArray, List.getElem_cons_zero, List.getElem_cons_succ])
      refine wpAnyT_ready (rs := [5]) (by kernel_rfl) (by simp) ?_
      refine AllReadyT.cons rfl (fun K hK => ?_) AllReadyT.nil
      go_simp
      have HC := Lib.hid (tstr (HTp1.out.gr (Gr.refl _).drew) (by omega))
      go_wp2_with (go_at_call 68; refine HC.out.mono ?_; rintro e u ⟨rfl, hr, hF⟩)
      refine hK.out _ _ hF (fun _ => wpAnyT_turnF hF (fun hHeld => ?_))
      clear hK K HC F0
      try dsimp only at hHeld
      refine wpAnyT_take (i := 6) rfl (by kernel_rfl) (by kernel_rfl) (by kernel_rfl) (by kernel_rfl) (fun _ _ _ h => h) (Or.inl ⟨by rfl, by intro w hSw; (try dsimp only at hSw); go_simp; (try with_reducible rfl)⟩) (by assumption) ?_; (try simp only [Act.put, List.setIfInBounds_toArray, List.set_cons_zero, List.set_cons_succ, List.getElem_toArray, List.getElem_cons_zero, List.getElem_cons_succ])
      refine wpAnyT_ready (rs := [7]) (by kernel_rfl) (by simp) ?_
      refine AllReadyT.cons rfl (fun K hK => ?_) AllReadyT.nil
      go_simp
      refine hK.out _ _ (Fx.gr ((Gr.refl _).alloc _) _) (fun _ => ?_)
      clear hK K
      refine wpAnyT_chain [8, 9, 10] (.cons rfl (.cons rfl (.cons rfl .nil))) (by kernel_rfl) (by kernel_rfl) rfl ?_
      clear hHeld
      have HXu := Lib.hid (hF.blk _ _ HXp.out hXB)
      have HRu := Lib.hid (hF.blk _ _ HRp.out (by omega))
      have HOu : Hid (OwnG 76 3 chgCells u w.heap.size (.slice q l'.length cc) l') := Lib.hid (HOp.out.kept (fun g c f hg => hF.blk _ _ hg (by rintro rfl; obtain ⟨⟨v, h1, _⟩, _⟩ := HTp1.out; rw [heap_drew h1] at hg; simp at hg)))
      have HGu : Hid (Gr w u) := Lib.hid (Fx.toGr HGp.out hF (by omega))
      have HTu := Lib.hid hr
      clear hr hF HXp HRp HOp HGp
      have hszu := HGu.out.size
      refine app_gen elChg encChg (N := w.heap.size) (by simp; omega) (by rfl) _ _ (by rfl) l' [(opD.chg (ls, false)).1] (by rfl) (by rfl) (HOu.out.gr ((Gr.refl _).alloc _)) (RdE.one encChg u 76 (opD.chg (ls, false)).1 rfl rfl) (by simp; omega) (by simp; omega) ?_
      intro v1 w1 hown1 hgb1
      have hXw := (HOu.out.gr ((Gr.refl _).alloc _)).other hgb1 (heap_alloc_mono HXu.out _) (by decide)
      have HRw := Lib.hid ((HOu.out.gr ((Gr.refl _).alloc _)).other hgb1 (heap_alloc_mono HRu.out _) (by decide))
      have HTw := Lib.hid (Rdr.grown (HTu.out.gr ((Gr.refl _).alloc _)) (HOu.out.gr ((Gr.refl _).alloc _)) hgb1 (by decide) (by decide))
      have HGw : Hid (Gr w w1) := Lib.hid ((HGu.out.alloc _).grown hgb1 (fun k hk => (World.ownsRow.lt HOu.out k hk).1))
      clear HXu HRu HTu HGu HOu hgb1
      obtain ⟨q1, d1, rfl⟩ := hown1.slice
      obtain ⟨k_0, k_1, k_2, k_3, k_4, k_5, k_6, k_7, k_8, g_0, g_1, g_2, g_3, g_4, g_5, g_6, g_7, g_8, l_0⟩ := blk9 hXw
      have HXw := Lib.hid hXw
      have HOw := Lib.hid hown1
      clear hXw hown1
      go_wp2
      go_roundw
      case rel =>
        refine ⟨j + 1, m, _, l' ++ [(opD.chg (ls, false)).1], _, by go_num, by omega, HE2, by simp; omega, Nat.le_trans hll (by omega), Lib.hid (by simpa using heap_set HXw.out 8 _), Lib.hid (HOw.out.kept (fun g c f hg => heap_set_other hg _ _ (by rintro rfl; rw [HXw.out] at hg; simp at hg))), Lib.hid (heap_set_other HRw.out _ _ (by simp only; omega)), Lib.hid (HTw.out.setX HXw.out hXB (by decide)), Lib.hid (HGw.out.setCell (by simp only; omega) _)⟩
      case measure => (first | (simp [intOf]; done) | (simp [intOf]; omega))
    · have hME : M = (l', (ls, bb)) := by
        rw [HE.out]
        cases m with
        | zero => simp [many]
        | succ m => cases bb with
          | true => rw [HM.out, if_pos rfl]; simp
          | false => exact absurd ⟨by omega, rfl⟩ hgo
      subst hME
      clear HE HM HL
      have hlm : l'.length ≤ 140737488355328 := by omega
      obtain ⟨k_0, k_1, k_2, k_3, k_4, k_5, k_6, k_7, k_8, g_0, g_1, g_2, g_3, g_4, g_5, g_6, g_7, g_8, l_0⟩ := blk9 HX2.out
      have HRd := Lib.hid (HO2.out.rd encChg (by decide))
      have HMay := Lib.hid (mayIntent_any (⟨v0, v1, v2, ⟨vs.toArray⟩, y0, y1, y2, y3, l'⟩ : Itt) HRd.out hlm)
      have HEnd := Lib.hid (tend HT2.out (by omega))
      have HU2 : Hid (takeIttR s.data.toList = if endB (ls, bb) = true ∧ n = l'.length ∧ ittOk (⟨v0, v1, v2, ⟨vs.toArray⟩, y0, y1, y2, y3, l'⟩ : Itt) = true then some (⟨v0, v1, v2, ⟨vs.toArray⟩, y0, y1, y2, y3, l'⟩ : Itt) else none) := HU
      clear HU
      have hgG := HG2.out
      obtain ⟨n_0, n_1, n_2, n_3, n_4, n_5, n_6, n_7, n_8, ng_0, ng_1, ng_2, ng_3, ng_4, ng_5, ng_6, ng_7, ng_8, nl_0⟩ := blk9 HR2.out
      by_cases hjn : j < n
      · by_cases hj17 : j < 17
        · obtain rfl : bb = true := by cases bb with | true => rfl | false => exact absurd ⟨by omega, rfl⟩ hgo
          clear hgo hjm
          rcases bool_cases (endB (ls, true)) with he | he
          · simp [endB] at he
          · rw [he] at HEnd HU2
            have HRr : Hid (takeIttR s.data.toList = none) := Lib.hid (by rw [HU2.out]; simp)
            clear HU2 he
            go_wp2_with (first | (go_at_call 69; refine HEnd.out.mono ?_; rintro e w3 ⟨rfl, rfl⟩))
            obtain ⟨z_0, z_1, z_2, z_3, z_4, z_5, z_6, z_7, z_8, _, _, _, _, _, _, _, _, _, _⟩ := blk9 (by simpa using (heap_set (heap_set (heap_set (heap_set (heap_set (heap_set (heap_set (heap_set (heap_set HR2.out 0 (.int .i64 0)) 1 (.int .i64 0)) 2 (.int .i64 0)) 3 (.string ⟨#[]⟩)) 4 (.int .i64 0)) 5 (.int .i64 0)) 6 (.int .i64 0)) 7 (.int .i64 0)) 8 (.slice none 0 0)))
            refine bodyPost_ret (v := .tuple #[.agg #[.int .i64 0, .int .i64 0, .int .i64 0, .string ⟨#[]⟩, .int .i64 0, .int .i64 0, .int .i64 0, .int .i64 0, .slice none 0 0], .int .i64 4]) (by simp [results, Tryz.results98, go_sem, z_0, z_1, z_2, z_3, z_4, z_5, z_6, z_7, z_8]) rfl ⟨.slice none 0 0, by rw [HRr.out]; rfl, ?_, (by repeat (first | (with_reducible exact Gr.refl _) | (with_reducible assumption) | (with_reducible refine Gr.alloc ?_ _) | (with_reducible refine Gr.drew ?_) | (with_reducible refine Gr.drewN ?_ _) | (with_reducible refine Gr.trans ?_ (by assumption)) | (with_reducible refine Gr.setCell ?_ (by first | exact Nat.le_refl _ | omega | (simp; done) | (simp; omega)) _)))⟩
            rw [HRr.out]
            exact .inl ⟨rfl, none, 0, rfl, by decide, fun _ => rfl⟩
        · have hj17b : j = 17 := by omega
          subst hj17b
          clear hgo hjm
          rcases bool_cases (endB (ls, bb)) with he | he
          · by_cases hnl : n = l'.length
            · rcases bool_cases (ittOk (⟨v0, v1, v2, ⟨vs.toArray⟩, y0, y1, y2, y3, l'⟩ : Itt)) with hok | hok
              · rw [he] at HEnd HU2
                have hnb : ((n : Int) != (l'.length : Int)) = false := by rw [hnl]; simp
                rw [hok] at HMay HU2
                have HRr : Hid (takeIttR s.data.toList = some (⟨v0, v1, v2, ⟨vs.toArray⟩, y0, y1, y2, y3, l'⟩ : Itt)) := Lib.hid (by rw [HU2.out]; simp [hnl])
                clear HU2 he hnl hok
                go_wp2_with (first | (go_at_call 69; refine HEnd.out.mono ?_; rintro e w3 ⟨rfl, rfl⟩) | (go_at_call 79; refine HMay.out.mono ?_; rintro e w2 ⟨rfl, hg2⟩; (have hR2 := hg2.blk HR2.out); (have hX2 := hg2.blk HX2.out); obtain ⟨k_0, k_1, k_2, k_3, k_4, k_5, k_6, k_7, k_8, g_0, g_1, g_2, g_3, g_4, g_5, g_6, g_7, g_8, l_0⟩ := blk9 hX2; obtain ⟨n_0, n_1, n_2, n_3, n_4, n_5, n_6, n_7, n_8, ng_0, ng_1, ng_2, ng_3, ng_4, ng_5, ng_6, ng_7, ng_8, nl_0⟩ := blk9 hR2))
                obtain ⟨z_0, z_1, z_2, z_3, z_4, z_5, z_6, z_7, z_8, _, _, _, _, _, _, _, _, _, _⟩ := blk9 (by simpa using (heap_set (heap_set (heap_set (heap_set (heap_set (heap_set (heap_set (heap_set (heap_set hR2 0 (.int .i64 v0)) 1 (.int .i64 v1)) 2 (.int .i64 v2)) 3 (.string ⟨vs.toArray⟩)) 4 (.int .i64 y0)) 5 (.int .i64 y1)) 6 (.int .i64 y2)) 7 (.int .i64 y3)) 8 (.slice q l'.length cc)))
                refine bodyPost_ret (v := .tuple #[.agg #[.int .i64 v0, .int .i64 v1, .int .i64 v2, .string ⟨vs.toArray⟩, .int .i64 y0, .int .i64 y1, .int .i64 y2, .int .i64 y3, .slice q l'.length cc], .int .i64 0]) (by simp [results, Tryz.results98, go_sem, z_0, z_1, z_2, z_3, z_4, z_5, z_6, z_7, z_8]) rfl ⟨.slice q l'.length cc, by rw [HRr.out]; rfl, ?_, (by repeat (first | (with_reducible exact Gr.refl _) | (with_reducible assumption) | (with_reducible refine Gr.alloc ?_ _) | (with_reducible refine Gr.drew ?_) | (with_reducible refine Gr.drewN ?_ _) | (with_reducible refine Gr.trans ?_ (by assumption)) | (with_reducible refine Gr.setCell ?_ (by first | exact Nat.le_refl _ | omega | (simp; done) | (simp; omega)) _)))⟩
                rw [HRr.out]
                refine OwnG.rd encChg (by decide) (OwnG.kept (HO2.out.gr hg2) (fun g c f hgf => ?_))
                have n1 : w.heap.size ≠ g := by rintro rfl; rw [hR2] at hgf; simp at hgf
                exact (heap_set_other (heap_set_other (heap_set_other (heap_set_other (heap_set_other (heap_set_other (heap_set_other (heap_set_other (heap_set_other hgf ⟨w.heap.size, 0, none⟩ (.int .i64 v0) n1) ⟨w.heap.size, 1, none⟩ (.int .i64 v1) n1) ⟨w.heap.size, 2, none⟩ (.int .i64 v2) n1) ⟨w.heap.size, 3, none⟩ (.string ⟨vs.toArray⟩) n1) ⟨w.heap.size, 4, none⟩ (.int .i64 y0) n1) ⟨w.heap.size, 5, none⟩ (.int .i64 y1) n1) ⟨w.heap.size, 6, none⟩ (.int .i64 y2) n1) ⟨w.heap.size, 7, none⟩ (.int .i64 y3) n1) ⟨w.heap.size, 8, none⟩ (.slice q l'.length cc) n1)
              · rw [he] at HEnd HU2
                have hnb : ((n : Int) != (l'.length : Int)) = false := by rw [hnl]; simp
                rw [hok] at HMay HU2
                have HRr : Hid (takeIttR s.data.toList = none) := Lib.hid (by rw [HU2.out]; simp)
                clear HU2 he hnl hok
                go_wp2_with (first | (go_at_call 69; refine HEnd.out.mono ?_; rintro e w3 ⟨rfl, rfl⟩) | (go_at_call 79; refine HMay.out.mono ?_; rintro e w2 ⟨rfl, hg2⟩; (have hR2 := hg2.blk HR2.out); (have hX2 := hg2.blk HX2.out); obtain ⟨k_0, k_1, k_2, k_3, k_4, k_5, k_6, k_7, k_8, g_0, g_1, g_2, g_3, g_4, g_5, g_6, g_7, g_8, l_0⟩ := blk9 hX2; obtain ⟨n_0, n_1, n_2, n_3, n_4, n_5, n_6, n_7, n_8, ng_0, ng_1, ng_2, ng_3, ng_4, ng_5, ng_6, ng_7, ng_8, nl_0⟩ := blk9 hR2))
                obtain ⟨z_0, z_1, z_2, z_3, z_4, z_5, z_6, z_7, z_8, _, _, _, _, _, _, _, _, _, _⟩ := blk9 (by simpa using (heap_set (heap_set (heap_set (heap_set (heap_set (heap_set (heap_set (heap_set (heap_set hR2 0 (.int .i64 0)) 1 (.int .i64 0)) 2 (.int .i64 0)) 3 (.string ⟨#[]⟩)) 4 (.int .i64 0)) 5 (.int .i64 0)) 6 (.int .i64 0)) 7 (.int .i64 0)) 8 (.slice none 0 0)))
                refine bodyPost_ret (v := .tuple #[.agg #[.int .i64 0, .int .i64 0, .int .i64 0, .string ⟨#[]⟩, .int .i64 0, .int .i64 0, .int .i64 0, .int .i64 0, .slice none 0 0], .int .i64 4]) (by simp [results, Tryz.results98, go_sem, z_0, z_1, z_2, z_3, z_4, z_5, z_6, z_7, z_8]) rfl ⟨.slice none 0 0, by rw [HRr.out]; rfl, ?_, (by repeat (first | (with_reducible exact Gr.refl _) | (with_reducible assumption) | (with_reducible refine Gr.alloc ?_ _) | (with_reducible refine Gr.drew ?_) | (with_reducible refine Gr.drewN ?_ _) | (with_reducible refine Gr.trans ?_ (by assumption)) | (with_reducible refine Gr.setCell ?_ (by first | exact Nat.le_refl _ | omega | (simp; done) | (simp; omega)) _)))⟩
                rw [HRr.out]
                exact .inl ⟨rfl, none, 0, rfl, by decide, fun _ => rfl⟩
            · rw [he] at HEnd HU2
              have hnb : ((n : Int) != (l'.length : Int)) = true := by rw [bne_iff_ne]; exact fun e => hnl (by exact_mod_cast e)
              have hnl2 := hnl
              have HRr : Hid (takeIttR s.data.toList = none) := Lib.hid (by rw [HU2.out]; simp [hnl])
              clear HU2 he hnl hnl2
              go_wp2_with (first | (go_at_call 69; refine HEnd.out.mono ?_; rintro e w3 ⟨rfl, rfl⟩))
              obtain ⟨z_0, z_1, z_2, z_3, z_4, z_5, z_6, z_7, z_8, _, _, _, _, _, _, _, _, _, _⟩ := blk9 (by simpa using (heap_set (heap_set (heap_set (heap_set (heap_set (heap_set (heap_set (heap_set (heap_set HR2.out 0 (.int .i64 0)) 1 (.int .i64 0)) 2 (.int .i64 0)) 3 (.string ⟨#[]⟩)) 4 (.int .i64 0)) 5 (.int .i64 0)) 6 (.int .i64 0)) 7 (.int .i64 0)) 8 (.slice none 0 0)))
              refine bodyPost_ret (v := .tuple #[.agg #[.int .i64 0, .int .i64 0, .int .i64 0, .string ⟨#[]⟩, .int .i64 0, .int .i64 0, .int .i64 0, .int .i64 0, .slice none 0 0], .int .i64 4]) (by simp [results, Tryz.results98, go_sem, z_0, z_1, z_2, z_3, z_4, z_5, z_6, z_7, z_8]) rfl ⟨.slice none 0 0, by rw [HRr.out]; rfl, ?_, (by repeat (first | (with_reducible exact Gr.refl _) | (with_reducible assumption) | (with_reducible refine Gr.alloc ?_ _) | (with_reducible refine Gr.drew ?_) | (with_reducible refine Gr.drewN ?_ _) | (with_reducible refine Gr.trans ?_ (by assumption)) | (with_reducible refine Gr.setCell ?_ (by first | exact Nat.le_refl _ | omega | (simp; done) | (simp; omega)) _)))⟩
              rw [HRr.out]
              exact .inl ⟨rfl, none, 0, rfl, by decide, fun _ => rfl⟩
          · rw [he] at HEnd HU2
            have HRr : Hid (takeIttR s.data.toList = none) := Lib.hid (by rw [HU2.out]; simp)
            clear HU2 he
            go_wp2_with (first | (go_at_call 69; refine HEnd.out.mono ?_; rintro e w3 ⟨rfl, rfl⟩))
            obtain ⟨z_0, z_1, z_2, z_3, z_4, z_5, z_6, z_7, z_8, _, _, _, _, _, _, _, _, _, _⟩ := blk9 (by simpa using (heap_set (heap_set (heap_set (heap_set (heap_set (heap_set (heap_set (heap_set (heap_set HR2.out 0 (.int .i64 0)) 1 (.int .i64 0)) 2 (.int .i64 0)) 3 (.string ⟨#[]⟩)) 4 (.int .i64 0)) 5 (.int .i64 0)) 6 (.int .i64 0)) 7 (.int .i64 0)) 8 (.slice none 0 0)))
            refine bodyPost_ret (v := .tuple #[.agg #[.int .i64 0, .int .i64 0, .int .i64 0, .string ⟨#[]⟩, .int .i64 0, .int .i64 0, .int .i64 0, .int .i64 0, .slice none 0 0], .int .i64 4]) (by simp [results, Tryz.results98, go_sem, z_0, z_1, z_2, z_3, z_4, z_5, z_6, z_7, z_8]) rfl ⟨.slice none 0 0, by rw [HRr.out]; rfl, ?_, (by repeat (first | (with_reducible exact Gr.refl _) | (with_reducible assumption) | (with_reducible refine Gr.alloc ?_ _) | (with_reducible refine Gr.drew ?_) | (with_reducible refine Gr.drewN ?_ _) | (with_reducible refine Gr.trans ?_ (by assumption)) | (with_reducible refine Gr.setCell ?_ (by first | exact Nat.le_refl _ | omega | (simp; done) | (simp; omega)) _)))⟩
            rw [HRr.out]
            exact .inl ⟨rfl, none, 0, rfl, by decide, fun _ => rfl⟩
      · clear hgo hjm
        rcases bool_cases (endB (ls, bb)) with he | he
        · by_cases hnl : n = l'.length
          · rcases bool_cases (ittOk (⟨v0, v1, v2, ⟨vs.toArray⟩, y0, y1, y2, y3, l'⟩ : Itt)) with hok | hok
            · rw [he] at HEnd HU2
              have hnb : ((n : Int) != (l'.length : Int)) = false := by rw [hnl]; simp
              rw [hok] at HMay HU2
              have HRr : Hid (takeIttR s.data.toList = some (⟨v0, v1, v2, ⟨vs.toArray⟩, y0, y1, y2, y3, l'⟩ : Itt)) := Lib.hid (by rw [HU2.out]; simp [hnl])
              clear HU2 he hnl hok
              go_wp2_with (first | (go_at_call 69; refine HEnd.out.mono ?_; rintro e w3 ⟨rfl, rfl⟩) | (go_at_call 79; refine HMay.out.mono ?_; rintro e w2 ⟨rfl, hg2⟩; (have hR2 := hg2.blk HR2.out); (have hX2 := hg2.blk HX2.out); obtain ⟨k_0, k_1, k_2, k_3, k_4, k_5, k_6, k_7, k_8, g_0, g_1, g_2, g_3, g_4, g_5, g_6, g_7, g_8, l_0⟩ := blk9 hX2; obtain ⟨n_0, n_1, n_2, n_3, n_4, n_5, n_6, n_7, n_8, ng_0, ng_1, ng_2, ng_3, ng_4, ng_5, ng_6, ng_7, ng_8, nl_0⟩ := blk9 hR2))
              obtain ⟨z_0, z_1, z_2, z_3, z_4, z_5, z_6, z_7, z_8, _, _, _, _, _, _, _, _, _, _⟩ := blk9 (by simpa using (heap_set (heap_set (heap_set (heap_set (heap_set (heap_set (heap_set (heap_set (heap_set hR2 0 (.int .i64 v0)) 1 (.int .i64 v1)) 2 (.int .i64 v2)) 3 (.string ⟨vs.toArray⟩)) 4 (.int .i64 y0)) 5 (.int .i64 y1)) 6 (.int .i64 y2)) 7 (.int .i64 y3)) 8 (.slice q l'.length cc)))
              refine bodyPost_ret (v := .tuple #[.agg #[.int .i64 v0, .int .i64 v1, .int .i64 v2, .string ⟨vs.toArray⟩, .int .i64 y0, .int .i64 y1, .int .i64 y2, .int .i64 y3, .slice q l'.length cc], .int .i64 0]) (by simp [results, Tryz.results98, go_sem, z_0, z_1, z_2, z_3, z_4, z_5, z_6, z_7, z_8]) rfl ⟨.slice q l'.length cc, by rw [HRr.out]; rfl, ?_, (by repeat (first | (with_reducible exact Gr.refl _) | (with_reducible assumption) | (with_reducible refine Gr.alloc ?_ _) | (with_reducible refine Gr.drew ?_) | (with_reducible refine Gr.drewN ?_ _) | (with_reducible refine Gr.trans ?_ (by assumption)) | (with_reducible refine Gr.setCell ?_ (by first | exact Nat.le_refl _ | omega | (simp; done) | (simp; omega)) _)))⟩
              rw [HRr.out]
              refine OwnG.rd encChg (by decide) (OwnG.kept (HO2.out.gr hg2) (fun g c f hgf => ?_))
              have n1 : w.heap.size ≠ g := by rintro rfl; rw [hR2] at hgf; simp at hgf
              exact (heap_set_other (heap_set_other (heap_set_other (heap_set_other (heap_set_other (heap_set_other (heap_set_other (heap_set_other (heap_set_other hgf ⟨w.heap.size, 0, none⟩ (.int .i64 v0) n1) ⟨w.heap.size, 1, none⟩ (.int .i64 v1) n1) ⟨w.heap.size, 2, none⟩ (.int .i64 v2) n1) ⟨w.heap.size, 3, none⟩ (.string ⟨vs.toArray⟩) n1) ⟨w.heap.size, 4, none⟩ (.int .i64 y0) n1) ⟨w.heap.size, 5, none⟩ (.int .i64 y1) n1) ⟨w.heap.size, 6, none⟩ (.int .i64 y2) n1) ⟨w.heap.size, 7, none⟩ (.int .i64 y3) n1) ⟨w.heap.size, 8, none⟩ (.slice q l'.length cc) n1)
            · rw [he] at HEnd HU2
              have hnb : ((n : Int) != (l'.length : Int)) = false := by rw [hnl]; simp
              rw [hok] at HMay HU2
              have HRr : Hid (takeIttR s.data.toList = none) := Lib.hid (by rw [HU2.out]; simp)
              clear HU2 he hnl hok
              go_wp2_with (first | (go_at_call 69; refine HEnd.out.mono ?_; rintro e w3 ⟨rfl, rfl⟩) | (go_at_call 79; refine HMay.out.mono ?_; rintro e w2 ⟨rfl, hg2⟩; (have hR2 := hg2.blk HR2.out); (have hX2 := hg2.blk HX2.out); obtain ⟨k_0, k_1, k_2, k_3, k_4, k_5, k_6, k_7, k_8, g_0, g_1, g_2, g_3, g_4, g_5, g_6, g_7, g_8, l_0⟩ := blk9 hX2; obtain ⟨n_0, n_1, n_2, n_3, n_4, n_5, n_6, n_7, n_8, ng_0, ng_1, ng_2, ng_3, ng_4, ng_5, ng_6, ng_7, ng_8, nl_0⟩ := blk9 hR2))
              obtain ⟨z_0, z_1, z_2, z_3, z_4, z_5, z_6, z_7, z_8, _, _, _, _, _, _, _, _, _, _⟩ := blk9 (by simpa using (heap_set (heap_set (heap_set (heap_set (heap_set (heap_set (heap_set (heap_set (heap_set hR2 0 (.int .i64 0)) 1 (.int .i64 0)) 2 (.int .i64 0)) 3 (.string ⟨#[]⟩)) 4 (.int .i64 0)) 5 (.int .i64 0)) 6 (.int .i64 0)) 7 (.int .i64 0)) 8 (.slice none 0 0)))
              refine bodyPost_ret (v := .tuple #[.agg #[.int .i64 0, .int .i64 0, .int .i64 0, .string ⟨#[]⟩, .int .i64 0, .int .i64 0, .int .i64 0, .int .i64 0, .slice none 0 0], .int .i64 4]) (by simp [results, Tryz.results98, go_sem, z_0, z_1, z_2, z_3, z_4, z_5, z_6, z_7, z_8]) rfl ⟨.slice none 0 0, by rw [HRr.out]; rfl, ?_, (by repeat (first | (with_reducible exact Gr.refl _) | (with_reducible assumption) | (with_reducible refine Gr.alloc ?_ _) | (with_reducible refine Gr.drew ?_) | (with_reducible refine Gr.drewN ?_ _) | (with_reducible refine Gr.trans ?_ (by assumption)) | (with_reducible refine Gr.setCell ?_ (by first | exact Nat.le_refl _ | omega | (simp; done) | (simp; omega)) _)))⟩
              rw [HRr.out]
              exact .inl ⟨rfl, none, 0, rfl, by decide, fun _ => rfl⟩
          · rw [he] at HEnd HU2
            have hnb : ((n : Int) != (l'.length : Int)) = true := by rw [bne_iff_ne]; exact fun e => hnl (by exact_mod_cast e)
            have hnl2 := hnl
            have HRr : Hid (takeIttR s.data.toList = none) := Lib.hid (by rw [HU2.out]; simp [hnl])
            clear HU2 he hnl hnl2
            go_wp2_with (first | (go_at_call 69; refine HEnd.out.mono ?_; rintro e w3 ⟨rfl, rfl⟩))
            obtain ⟨z_0, z_1, z_2, z_3, z_4, z_5, z_6, z_7, z_8, _, _, _, _, _, _, _, _, _, _⟩ := blk9 (by simpa using (heap_set (heap_set (heap_set (heap_set (heap_set (heap_set (heap_set (heap_set (heap_set HR2.out 0 (.int .i64 0)) 1 (.int .i64 0)) 2 (.int .i64 0)) 3 (.string ⟨#[]⟩)) 4 (.int .i64 0)) 5 (.int .i64 0)) 6 (.int .i64 0)) 7 (.int .i64 0)) 8 (.slice none 0 0)))
            refine bodyPost_ret (v := .tuple #[.agg #[.int .i64 0, .int .i64 0, .int .i64 0, .string ⟨#[]⟩, .int .i64 0, .int .i64 0, .int .i64 0, .int .i64 0, .slice none 0 0], .int .i64 4]) (by simp [results, Tryz.results98, go_sem, z_0, z_1, z_2, z_3, z_4, z_5, z_6, z_7, z_8]) rfl ⟨.slice none 0 0, by rw [HRr.out]; rfl, ?_, (by repeat (first | (with_reducible exact Gr.refl _) | (with_reducible assumption) | (with_reducible refine Gr.alloc ?_ _) | (with_reducible refine Gr.drew ?_) | (with_reducible refine Gr.drewN ?_ _) | (with_reducible refine Gr.trans ?_ (by assumption)) | (with_reducible refine Gr.setCell ?_ (by first | exact Nat.le_refl _ | omega | (simp; done) | (simp; omega)) _)))⟩
            rw [HRr.out]
            exact .inl ⟨rfl, none, 0, rfl, by decide, fun _ => rfl⟩
        · rw [he] at HEnd HU2
          have HRr : Hid (takeIttR s.data.toList = none) := Lib.hid (by rw [HU2.out]; simp)
          clear HU2 he
          go_wp2_with (first | (go_at_call 69; refine HEnd.out.mono ?_; rintro e w3 ⟨rfl, rfl⟩))
          obtain ⟨z_0, z_1, z_2, z_3, z_4, z_5, z_6, z_7, z_8, _, _, _, _, _, _, _, _, _, _⟩ := blk9 (by simpa using (heap_set (heap_set (heap_set (heap_set (heap_set (heap_set (heap_set (heap_set (heap_set HR2.out 0 (.int .i64 0)) 1 (.int .i64 0)) 2 (.int .i64 0)) 3 (.string ⟨#[]⟩)) 4 (.int .i64 0)) 5 (.int .i64 0)) 6 (.int .i64 0)) 7 (.int .i64 0)) 8 (.slice none 0 0)))
          refine bodyPost_ret (v := .tuple #[.agg #[.int .i64 0, .int .i64 0, .int .i64 0, .string ⟨#[]⟩, .int .i64 0, .int .i64 0, .int .i64 0, .int .i64 0, .slice none 0 0], .int .i64 4]) (by simp [results, Tryz.results98, go_sem, z_0, z_1, z_2, z_3, z_4, z_5, z_6, z_7, z_8]) rfl ⟨.slice none 0 0, by rw [HRr.out]; rfl, ?_, (by repeat (first | (with_reducible exact Gr.refl _) | (with_reducible assumption) | (with_reducible refine Gr.alloc ?_ _) | (with_reducible refine Gr.drew ?_) | (with_reducible refine Gr.drewN ?_ _) | (with_reducible refine Gr.trans ?_ (by assumption)) | (with_reducible refine Gr.setCell ?_ (by first | exact Nat.le_refl _ | omega | (simp; done) | (simp; omega)) _)))⟩
          rw [HRr.out]
          exact .inl ⟨rfl, none, 0, rfl, by decide, fun _ => rfl⟩
end Go.Proofs.YthgecojbggoniaaGreatDoor
