/- Layer 11: the statement that what is written is read as it was. -/
import Derived.Test.YtpnojkgdjkncbaaDoorTakG
import Derived.Test.YtpnojkgdjkncbaaDoorTakP
import Derived.Test.YtpnojkgdjkncbaaDoorCelAB
import Derived.Test.YtpnojkgdjkncbaaDoorRecG
namespace Go.Proofs.YtpnojkgdjkncbaaDoor
open Go.RowKit
set_option maxRecDepth 100000
set_option linter.unusedVariables false
set_option linter.unusedSimpArgs false

theorem ittT_len (x : Itt) : (ittT x).length ≤ 2000 := by
  unfold ittT
  split
  · rename_i h
    have h1 := ittH_length x
    have h2 := chgsW_length x.l
    have h3 := ok16 h
    rw [ittW_eq, List.length_append]
    omega
  · simp
theorem recT_eq (x : Rec) : recT x = if recOk x = true then recW x else [] := rfl
theorem wrtsW_len : ∀ l : List Wrt, (l.flatMap wrtW).length ≤ 100 * l.length
  | [] => by simp
  | c :: r => by
    have h1 := strW_length c.key.data.toList
    have h2 := numW_length c.seq
    have h3 := wrtsW_len r
    simp only [List.flatMap_cons, List.length_append, List.length_cons, wrtW]
    omega
theorem recT_len (x : Rec) : (recT x).length ≤ 5000 := by
  unfold recT
  split
  · rename_i h
    have l1 := numW_length x.id
    have l2 := numW_length x.epoch
    have l0 := numW_length x.status
    have l3 := numW_length x.prio
    have l4 := strW_length x.anchor.data.toList
    have l5 := numW_length x.sw
    have l6 := numW_length x.sl
    have l7 := numW_length x.bw
    have l8 := numW_length x.bl
    have l9 := numW_length (x.l.length : Int)
    have h2 := wrtsW_len x.l
    have h3 := rec32 h
    simp only [recH, List.length_append]
    omega
  · simp
theorem verW_len (s : List UInt8) (is : Bool) : (versionW s is).length ≤ 200 := by
  unfold versionW
  have h1 := strW_length s
  have h2 := numW_length 1
  have h3 := numW_length 0
  split
  · split
    · simp only [List.length_append]; omega
    · omega
  · simp
theorem toList_toArray (l : List UInt8) : (⟨l.toArray⟩ : ByteArray).data.toList = l := by simp
theorem emptyStr : ((⟨([] : List UInt8).toArray⟩ : ByteArray) == (⟨#[]⟩ : ByteArray)) = true := by decide
set_option maxHeartbeats 8000000 in
theorem cellBack_111 {w : World} (x : Itt) (y : Rec) (value : ByteArray) {qx qy : Option Addr} {cx cy : Nat} (hx : RdC w (.slice qx x.l.length cx) x.l) (hy : RdW w (.slice qy y.l.length cy) y.l) (hlx : x.l.length ≤ 1048576) (hly : y.l.length ≤ 1048576) (hv : value.size ≤ 1048576) (hsh : Sh w)
    (ox : ittOk x = true) (oy : recOk y = true) (ov : okV value.data.toList true = true) :
    Calls Tryd.prog 9 #[.agg #[.int .i64 x.id, .int .i64 x.epoch, .int .i64 x.prio, .string x.anchor, .int .i64 x.sw, .int .i64 x.sl, .int .i64 x.bw, .int .i64 x.bl, .slice qx x.l.length cx], .agg #[.int .i64 y.id, .int .i64 y.epoch, .int .i64 y.status, .int .i64 y.prio, .string y.anchor, .int .i64 y.sw, .int .i64 y.sl, .int .i64 y.bw, .int .i64 y.bl, .slice qy y.l.length cy], .string value] w fun e w' => e = .returned (.bool true) ∧ Gr w w' := by
  have HAW := Lib.hid (fun (u : World) (hu : Sh u) => awake_any u hu)
  have hvl : value.data.toList.length = value.size := Array.length_toList
  have H1 := Lib.hid (fun (u : World) (v1 : Value) (h1 : RdC u v1 x.l) => cellIntent_any x h1 (by omega))
  have H2 := Lib.hid (fun u => takeIntent_any ⟨(ittT x).toArray⟩ (by rw [size_toArray]; have := ittT_len x; omega) u)
  have H3 := Lib.hid (fun (u : World) (v1 : Value) (h1 : RdW u v1 y.l) => cellRecord_any y h1 (by omega))
  have H4 := Lib.hid (fun u => takeRecord_any ⟨(recT y).toArray⟩ (by rw [size_toArray]; have := recT_len y; omega) u)
  have H5 := Lib.hid (fun u => cellVersion_any value true u)
  have H6 := Lib.hid (fun u => takeVersion_any ⟨(versionW value.data.toList true).toArray⟩ (by rw [size_toArray]; have := verW_len value.data.toList true; omega) u)
  have HSI := Lib.hid (fun (u : World) (v1 v2 : Value) (h1 : RdC u v1 x.l) (h2 : RdC u v2 x.l) (hl : x.l.length ≤ 9223372036854775807) => by have := refSame_any x x h1 h2 hl; rwa [eqItt_self] at this)
  have HSR := Lib.hid (fun (u : World) (v1 v2 : Value) (h1 : RdW u v1 y.l) (h2 : RdW u v2 y.l) (hl : y.l.length ≤ 9223372036854775807) => by have := refSameRecord_any y y h1 h2 hl; rwa [eqRec_self] at this)
  rw [toList_toArray] at H2 H4 H6
  rw [ox] at H1
  rw [oy] at H3
  rw [show ittOut (takeIttR (ittT x)) = (x, 0) by unfold ittT; rw [if_pos ox, takeItt_fwd ox]; rfl] at H2
  rw [show recOut (takeRecR (recT y)) = (y, 0) by rw [recT_eq, if_pos oy, takeRec_fwd oy]; rfl] at H4
  rw [show takeVerR (versionW value.data.toList true) = (value.data.toList, true, 0) from takeVer_fwd ov] at H6
  rw [show versionE value.data.toList true = 0 by unfold versionE; rw [if_pos ov]] at H5
  rw [show (⟨((value.data.toList, true, (0 : Int)) : List UInt8 × Bool × Int).1.toArray⟩ : ByteArray) = value from bytes_back value] at H6
  generalize (⟨(versionW value.data.toList true).toArray⟩ : ByteArray) = vt at H5 H6
  clear ox oy ov
  generalize (⟨(ittT x).toArray⟩ : ByteArray) = st at H1 H2
  generalize (⟨(recT y).toArray⟩ : ByteArray) = tt at H3 H4
  have BX := Lib.hid (heap_alloc_mono (heap_alloc_new w (.cells #[.int .i64 x.id, .int .i64 x.epoch, .int .i64 x.prio, .string x.anchor, .int .i64 x.sw, .int .i64 x.sl, .int .i64 x.bw, .int .i64 x.bl, .slice qx x.l.length cx] 39)) (.cells #[.int .i64 y.id, .int .i64 y.epoch, .int .i64 y.status, .int .i64 y.prio, .string y.anchor, .int .i64 y.sw, .int .i64 y.sl, .int .i64 y.bw, .int .i64 y.bl, .slice qy y.l.length cy] 47))
  have BY : Hid (((w.alloc (.cells #[.int .i64 x.id, .int .i64 x.epoch, .int .i64 x.prio, .string x.anchor, .int .i64 x.sw, .int .i64 x.sl, .int .i64 x.bw, .int .i64 x.bl, .slice qx x.l.length cx] 39)).alloc (.cells #[.int .i64 y.id, .int .i64 y.epoch, .int .i64 y.status, .int .i64 y.prio, .string y.anchor, .int .i64 y.sw, .int .i64 y.sl, .int .i64 y.bw, .int .i64 y.bl, .slice qy y.l.length cy] 47)).heap[w.heap.size + 1]? = some (.cells #[.int .i64 y.id, .int .i64 y.epoch, .int .i64 y.status, .int .i64 y.prio, .string y.anchor, .int .i64 y.sw, .int .i64 y.sl, .int .i64 y.bw, .int .i64 y.bl, .slice qy y.l.length cy] 47)) := Lib.hid (heap_newn (by simp))
  have HG := Lib.hid (((Gr.refl w).alloc (.cells #[.int .i64 x.id, .int .i64 x.epoch, .int .i64 x.prio, .string x.anchor, .int .i64 x.sw, .int .i64 x.sl, .int .i64 x.bw, .int .i64 x.bl, .slice qx x.l.length cx] 39)).alloc (.cells #[.int .i64 y.id, .int .i64 y.epoch, .int .i64 y.status, .int .i64 y.prio, .string y.anchor, .int .i64 y.sw, .int .i64 y.sl, .int .i64 y.bw, .int .i64 y.bl, .slice qy y.l.length cy] 47))
  have HRX := Lib.hid (RdC.gr hx HG.out)
  have HRY := Lib.hid (RdW.gr hy HG.out)
  clear hx hy
  go_enter Tryd.func9, Tryd.ntmps9
  obtain ⟨k_0, k_1, k_2, k_3, k_4, k_5, k_6, k_7, k_8, kg_0, kg_1, kg_2, kg_3, kg_4, kg_5, kg_6, kg_7, kg_8, kl⟩ := blk9 BX.out
  go_wp2_with fail
  refine (H1.out _ _ HRX.out).mono ?_
  rintro e w1 ⟨rfl, hg1⟩
  clear k_0 k_1 k_2 k_3 k_4 k_5 k_6 k_7 k_8 kg_0 kg_1 kg_2 kg_3 kg_4 kg_5 kg_6 kg_7 kg_8 kl
  have BX := Lib.hid (hg1.blk BX.out)
  have BY := Lib.hid (hg1.blk BY.out)
  have HRX := Lib.hid (HRX.out.gr hg1)
  have HRY := Lib.hid (HRY.out.gr hg1)
  have HG := Lib.hid (HG.out.trans hg1)
  clear hg1
  go_wp2_with fail
  refine (H2.out _).mono ?_
  rintro e w2 ⟨v2, rfl, hr2, hg2⟩
  obtain ⟨q2, c2, rfl⟩ := hr2.form
  have BX := Lib.hid (heap_alloc_mono (hg2.blk BX.out) (.cells #[.int .i64 x.id, .int .i64 x.epoch, .int .i64 x.prio, .string x.anchor, .int .i64 x.sw, .int .i64 x.sl, .int .i64 x.bw, .int .i64 x.bl, .slice q2 x.l.length c2] 39))
  have BY := Lib.hid (heap_alloc_mono (hg2.blk BY.out) (.cells #[.int .i64 x.id, .int .i64 x.epoch, .int .i64 x.prio, .string x.anchor, .int .i64 x.sw, .int .i64 x.sl, .int .i64 x.bw, .int .i64 x.bl, .slice q2 x.l.length c2] 39))
  have HRX := Lib.hid ((HRX.out.gr hg2).gr ((Gr.refl _).alloc (.cells #[.int .i64 x.id, .int .i64 x.epoch, .int .i64 x.prio, .string x.anchor, .int .i64 x.sw, .int .i64 x.sl, .int .i64 x.bw, .int .i64 x.bl, .slice q2 x.l.length c2] 39)))
  have HRY := Lib.hid ((HRY.out.gr hg2).gr ((Gr.refl _).alloc (.cells #[.int .i64 x.id, .int .i64 x.epoch, .int .i64 x.prio, .string x.anchor, .int .i64 x.sw, .int .i64 x.sl, .int .i64 x.bw, .int .i64 x.bl, .slice q2 x.l.length c2] 39)))
  have HG := Lib.hid ((HG.out.trans hg2).alloc (.cells #[.int .i64 x.id, .int .i64 x.epoch, .int .i64 x.prio, .string x.anchor, .int .i64 x.sw, .int .i64 x.sl, .int .i64 x.bw, .int .i64 x.bl, .slice q2 x.l.length c2] 39))
  clear hg2
  have HRA := Lib.hid (hr2.gr ((Gr.refl _).alloc (.cells #[.int .i64 x.id, .int .i64 x.epoch, .int .i64 x.prio, .string x.anchor, .int .i64 x.sw, .int .i64 x.sl, .int .i64 x.bw, .int .i64 x.bl, .slice q2 x.l.length c2] 39)))
  have BA := Lib.hid (heap_alloc_new w2 (.cells #[.int .i64 x.id, .int .i64 x.epoch, .int .i64 x.prio, .string x.anchor, .int .i64 x.sw, .int .i64 x.sl, .int .i64 x.bw, .int .i64 x.bl, .slice q2 x.l.length c2] 39))
  clear hr2
  obtain ⟨k_0, k_1, k_2, k_3, k_4, k_5, k_6, k_7, k_8, k_9, kg_0, kg_1, kg_2, kg_3, kg_4, kg_5, kg_6, kg_7, kg_8, kg_9, kl⟩ := blk10 BY.out
  go_wp2_with fail
  refine (H3.out _ _ HRY.out).mono ?_
  rintro e w3 ⟨rfl, hg3⟩
  clear k_0 k_1 k_2 k_3 k_4 k_5 k_6 k_7 k_8 k_9 kg_0 kg_1 kg_2 kg_3 kg_4 kg_5 kg_6 kg_7 kg_8 kg_9 kl
  have BX := Lib.hid (hg3.blk BX.out)
  have BY := Lib.hid (hg3.blk BY.out)
  have HRX := Lib.hid (HRX.out.gr hg3)
  have HRY := Lib.hid (HRY.out.gr hg3)
  have HRA := Lib.hid (HRA.out.gr hg3)
  have BA := Lib.hid (hg3.blk BA.out)
  have HG := Lib.hid (HG.out.trans hg3)
  clear hg3
  go_wp2_with fail
  refine (H4.out _).mono ?_
  rintro e w4 ⟨v4, rfl, hr4, hg4⟩
  obtain ⟨q4, c4, rfl⟩ := hr4.form
  have BX := Lib.hid (heap_alloc_mono (hg4.blk BX.out) (.cells #[.int .i64 y.id, .int .i64 y.epoch, .int .i64 y.status, .int .i64 y.prio, .string y.anchor, .int .i64 y.sw, .int .i64 y.sl, .int .i64 y.bw, .int .i64 y.bl, .slice q4 y.l.length c4] 47))
  have BY := Lib.hid (heap_alloc_mono (hg4.blk BY.out) (.cells #[.int .i64 y.id, .int .i64 y.epoch, .int .i64 y.status, .int .i64 y.prio, .string y.anchor, .int .i64 y.sw, .int .i64 y.sl, .int .i64 y.bw, .int .i64 y.bl, .slice q4 y.l.length c4] 47))
  have HRX := Lib.hid ((HRX.out.gr hg4).gr ((Gr.refl _).alloc (.cells #[.int .i64 y.id, .int .i64 y.epoch, .int .i64 y.status, .int .i64 y.prio, .string y.anchor, .int .i64 y.sw, .int .i64 y.sl, .int .i64 y.bw, .int .i64 y.bl, .slice q4 y.l.length c4] 47)))
  have HRY := Lib.hid ((HRY.out.gr hg4).gr ((Gr.refl _).alloc (.cells #[.int .i64 y.id, .int .i64 y.epoch, .int .i64 y.status, .int .i64 y.prio, .string y.anchor, .int .i64 y.sw, .int .i64 y.sl, .int .i64 y.bw, .int .i64 y.bl, .slice q4 y.l.length c4] 47)))
  have HRA := Lib.hid ((HRA.out.gr hg4).gr ((Gr.refl _).alloc (.cells #[.int .i64 y.id, .int .i64 y.epoch, .int .i64 y.status, .int .i64 y.prio, .string y.anchor, .int .i64 y.sw, .int .i64 y.sl, .int .i64 y.bw, .int .i64 y.bl, .slice q4 y.l.length c4] 47)))
  have BA := Lib.hid (heap_alloc_mono (hg4.blk BA.out) (.cells #[.int .i64 y.id, .int .i64 y.epoch, .int .i64 y.status, .int .i64 y.prio, .string y.anchor, .int .i64 y.sw, .int .i64 y.sl, .int .i64 y.bw, .int .i64 y.bl, .slice q4 y.l.length c4] 47))
  have HG := Lib.hid ((HG.out.trans hg4).alloc (.cells #[.int .i64 y.id, .int .i64 y.epoch, .int .i64 y.status, .int .i64 y.prio, .string y.anchor, .int .i64 y.sw, .int .i64 y.sl, .int .i64 y.bw, .int .i64 y.bl, .slice q4 y.l.length c4] 47))
  clear hg4
  have HRB := Lib.hid (hr4.gr ((Gr.refl _).alloc (.cells #[.int .i64 y.id, .int .i64 y.epoch, .int .i64 y.status, .int .i64 y.prio, .string y.anchor, .int .i64 y.sw, .int .i64 y.sl, .int .i64 y.bw, .int .i64 y.bl, .slice q4 y.l.length c4] 47)))
  have BB := Lib.hid (heap_alloc_new w4 (.cells #[.int .i64 y.id, .int .i64 y.epoch, .int .i64 y.status, .int .i64 y.prio, .string y.anchor, .int .i64 y.sw, .int .i64 y.sl, .int .i64 y.bw, .int .i64 y.bl, .slice q4 y.l.length c4] 47))
  clear hr4
  go_wp2_with fail
  refine (H5.out _).mono ?_
  rintro e w5 ⟨rfl, hg5⟩
  have BX := Lib.hid (hg5.blk BX.out)
  have BY := Lib.hid (hg5.blk BY.out)
  have HRX := Lib.hid (HRX.out.gr hg5)
  have HRY := Lib.hid (HRY.out.gr hg5)
  have HRA := Lib.hid (HRA.out.gr hg5)
  have BA := Lib.hid (hg5.blk BA.out)
  have HRB := Lib.hid (HRB.out.gr hg5)
  have BB := Lib.hid (hg5.blk BB.out)
  have HG := Lib.hid (HG.out.trans hg5)
  clear hg5
  go_wp2_with fail
  refine (H6.out _).mono ?_
  rintro e w6 ⟨rfl, hg6⟩
  have BX := Lib.hid (hg6.blk BX.out)
  have BY := Lib.hid (hg6.blk BY.out)
  have HRX := Lib.hid (HRX.out.gr hg6)
  have HRY := Lib.hid (HRY.out.gr hg6)
  have HRA := Lib.hid (HRA.out.gr hg6)
  have BA := Lib.hid (hg6.blk BA.out)
  have HRB := Lib.hid (HRB.out.gr hg6)
  have BB := Lib.hid (hg6.blk BB.out)
  have HG := Lib.hid (HG.out.trans hg6)
  clear hg6
  obtain ⟨ka_0, ka_1, ka_2, ka_3, ka_4, ka_5, ka_6, ka_7, ka_8, kag_0, kag_1, kag_2, kag_3, kag_4, kag_5, kag_6, kag_7, kag_8, kal⟩ := blk9 BX.out
  obtain ⟨kb_0, kb_1, kb_2, kb_3, kb_4, kb_5, kb_6, kb_7, kb_8, kbg_0, kbg_1, kbg_2, kbg_3, kbg_4, kbg_5, kbg_6, kbg_7, kbg_8, kbl⟩ := blk9 BA.out
  obtain ⟨kc_0, kc_1, kc_2, kc_3, kc_4, kc_5, kc_6, kc_7, kc_8, kc_9, kcg_0, kcg_1, kcg_2, kcg_3, kcg_4, kcg_5, kcg_6, kcg_7, kcg_8, kcg_9, kcl⟩ := blk10 BY.out
  obtain ⟨kd_0, kd_1, kd_2, kd_3, kd_4, kd_5, kd_6, kd_7, kd_8, kd_9, kdg_0, kdg_1, kdg_2, kdg_3, kdg_4, kdg_5, kdg_6, kdg_7, kdg_8, kdg_9, kdl⟩ := blk10 BB.out
  go_wp2_with fail
  refine (HSI.out _ _ _ HRA.out HRX.out (RdR.len HRX.out)).mono ?_
  rintro e w7 ⟨rfl, hg7⟩
  clear ka_0 ka_1 ka_2 ka_3 ka_4 ka_5 ka_6 ka_7 ka_8 kag_0 kag_1 kag_2 kag_3 kag_4 kag_5 kag_6 kag_7 kag_8 kal kb_0 kb_1 kb_2 kb_3 kb_4 kb_5 kb_6 kb_7 kb_8 kbg_0 kbg_1 kbg_2 kbg_3 kbg_4 kbg_5 kbg_6 kbg_7 kbg_8 kbl kc_0 kc_1 kc_2 kc_3 kc_4 kc_5 kc_6 kc_7 kc_8 kc_9 kcg_0 kcg_1 kcg_2 kcg_3 kcg_4 kcg_5 kcg_6 kcg_7 kcg_8 kcg_9 kcl kd_0 kd_1 kd_2 kd_3 kd_4 kd_5 kd_6 kd_7 kd_8 kd_9 kdg_0 kdg_1 kdg_2 kdg_3 kdg_4 kdg_5 kdg_6 kdg_7 kdg_8 kdg_9 kdl
  have BX := Lib.hid (hg7.blk BX.out)
  have BY := Lib.hid (hg7.blk BY.out)
  have HRX := Lib.hid (HRX.out.gr hg7)
  have HRY := Lib.hid (HRY.out.gr hg7)
  have HRA := Lib.hid (HRA.out.gr hg7)
  have BA := Lib.hid (hg7.blk BA.out)
  have HRB := Lib.hid (HRB.out.gr hg7)
  have BB := Lib.hid (hg7.blk BB.out)
  have HG := Lib.hid (HG.out.trans hg7)
  clear hg7
  obtain ⟨ka_0, ka_1, ka_2, ka_3, ka_4, ka_5, ka_6, ka_7, ka_8, kag_0, kag_1, kag_2, kag_3, kag_4, kag_5, kag_6, kag_7, kag_8, kal⟩ := blk9 BX.out
  obtain ⟨kb_0, kb_1, kb_2, kb_3, kb_4, kb_5, kb_6, kb_7, kb_8, kbg_0, kbg_1, kbg_2, kbg_3, kbg_4, kbg_5, kbg_6, kbg_7, kbg_8, kbl⟩ := blk9 BA.out
  obtain ⟨kc_0, kc_1, kc_2, kc_3, kc_4, kc_5, kc_6, kc_7, kc_8, kc_9, kcg_0, kcg_1, kcg_2, kcg_3, kcg_4, kcg_5, kcg_6, kcg_7, kcg_8, kcg_9, kcl⟩ := blk10 BY.out
  obtain ⟨kd_0, kd_1, kd_2, kd_3, kd_4, kd_5, kd_6, kd_7, kd_8, kd_9, kdg_0, kdg_1, kdg_2, kdg_3, kdg_4, kdg_5, kdg_6, kdg_7, kdg_8, kdg_9, kdl⟩ := blk10 BB.out
  go_wp2_with fail
  refine (HSR.out _ _ _ HRB.out HRY.out (RdR.len HRY.out)).mono ?_
  rintro e w8 ⟨rfl, hg8⟩
  clear ka_0 ka_1 ka_2 ka_3 ka_4 ka_5 ka_6 ka_7 ka_8 kag_0 kag_1 kag_2 kag_3 kag_4 kag_5 kag_6 kag_7 kag_8 kal kb_0 kb_1 kb_2 kb_3 kb_4 kb_5 kb_6 kb_7 kb_8 kbg_0 kbg_1 kbg_2 kbg_3 kbg_4 kbg_5 kbg_6 kbg_7 kbg_8 kbl kc_0 kc_1 kc_2 kc_3 kc_4 kc_5 kc_6 kc_7 kc_8 kc_9 kcg_0 kcg_1 kcg_2 kcg_3 kcg_4 kcg_5 kcg_6 kcg_7 kcg_8 kcg_9 kcl kd_0 kd_1 kd_2 kd_3 kd_4 kd_5 kd_6 kd_7 kd_8 kd_9 kdg_0 kdg_1 kdg_2 kdg_3 kdg_4 kdg_5 kdg_6 kdg_7 kdg_8 kdg_9 kdl
  have BX := Lib.hid (hg8.blk BX.out)
  have BY := Lib.hid (hg8.blk BY.out)
  have HRX := Lib.hid (HRX.out.gr hg8)
  have HRY := Lib.hid (HRY.out.gr hg8)
  have HRA := Lib.hid (HRA.out.gr hg8)
  have BA := Lib.hid (hg8.blk BA.out)
  have HRB := Lib.hid (HRB.out.gr hg8)
  have BB := Lib.hid (hg8.blk BB.out)
  have HG := Lib.hid (HG.out.trans hg8)
  clear hg8
  obtain ⟨ka_0, ka_1, ka_2, ka_3, ka_4, ka_5, ka_6, ka_7, ka_8, kag_0, kag_1, kag_2, kag_3, kag_4, kag_5, kag_6, kag_7, kag_8, kal⟩ := blk9 BX.out
  obtain ⟨kb_0, kb_1, kb_2, kb_3, kb_4, kb_5, kb_6, kb_7, kb_8, kbg_0, kbg_1, kbg_2, kbg_3, kbg_4, kbg_5, kbg_6, kbg_7, kbg_8, kbl⟩ := blk9 BA.out
  obtain ⟨kc_0, kc_1, kc_2, kc_3, kc_4, kc_5, kc_6, kc_7, kc_8, kc_9, kcg_0, kcg_1, kcg_2, kcg_3, kcg_4, kcg_5, kcg_6, kcg_7, kcg_8, kcg_9, kcl⟩ := blk10 BY.out
  obtain ⟨kd_0, kd_1, kd_2, kd_3, kd_4, kd_5, kd_6, kd_7, kd_8, kd_9, kdg_0, kdg_1, kdg_2, kdg_3, kdg_4, kdg_5, kdg_6, kdg_7, kdg_8, kdg_9, kdl⟩ := blk10 BB.out
  go_wp2_with fail
  refine (HAW.out _ (hsh.gr HG.out)).mono ?_
  rintro e w9 ⟨rfl, hg9⟩
  have hgF := HG.out.trans hg9
  go_wp2
  go_ret
  exact ⟨rfl, hgF⟩
set_option maxHeartbeats 8000000 in
theorem cellBack_110 {w : World} (x : Itt) (y : Rec) (value : ByteArray) {qx qy : Option Addr} {cx cy : Nat} (hx : RdC w (.slice qx x.l.length cx) x.l) (hy : RdW w (.slice qy y.l.length cy) y.l) (hlx : x.l.length ≤ 1048576) (hly : y.l.length ≤ 1048576) (hv : value.size ≤ 1048576) (hsh : Sh w)
    (ox : ittOk x = true) (oy : recOk y = true) (ov : okV value.data.toList true = false) :
    Calls Tryd.prog 9 #[.agg #[.int .i64 x.id, .int .i64 x.epoch, .int .i64 x.prio, .string x.anchor, .int .i64 x.sw, .int .i64 x.sl, .int .i64 x.bw, .int .i64 x.bl, .slice qx x.l.length cx], .agg #[.int .i64 y.id, .int .i64 y.epoch, .int .i64 y.status, .int .i64 y.prio, .string y.anchor, .int .i64 y.sw, .int .i64 y.sl, .int .i64 y.bw, .int .i64 y.bl, .slice qy y.l.length cy], .string value] w fun e w' => e = .returned (.bool true) ∧ Gr w w' := by
  have HAW := Lib.hid (fun (u : World) (hu : Sh u) => awake_any u hu)
  have hvl : value.data.toList.length = value.size := Array.length_toList
  have H1 := Lib.hid (fun (u : World) (v1 : Value) (h1 : RdC u v1 x.l) => cellIntent_any x h1 (by omega))
  have H2 := Lib.hid (fun u => takeIntent_any ⟨(ittT x).toArray⟩ (by rw [size_toArray]; have := ittT_len x; omega) u)
  have H3 := Lib.hid (fun (u : World) (v1 : Value) (h1 : RdW u v1 y.l) => cellRecord_any y h1 (by omega))
  have H4 := Lib.hid (fun u => takeRecord_any ⟨(recT y).toArray⟩ (by rw [size_toArray]; have := recT_len y; omega) u)
  have H5 := Lib.hid (fun u => cellVersion_any value true u)
  have H6 := Lib.hid (fun u => takeVersion_any ⟨(versionW value.data.toList true).toArray⟩ (by rw [size_toArray]; have := verW_len value.data.toList true; omega) u)
  have HSI := Lib.hid (fun (u : World) (v1 v2 : Value) (h1 : RdC u v1 x.l) (h2 : RdC u v2 x.l) (hl : x.l.length ≤ 9223372036854775807) => by have := refSame_any x x h1 h2 hl; rwa [eqItt_self] at this)
  have HSR := Lib.hid (fun (u : World) (v1 v2 : Value) (h1 : RdW u v1 y.l) (h2 : RdW u v2 y.l) (hl : y.l.length ≤ 9223372036854775807) => by have := refSameRecord_any y y h1 h2 hl; rwa [eqRec_self] at this)
  rw [toList_toArray] at H2 H4 H6
  rw [ox] at H1
  rw [oy] at H3
  rw [show ittOut (takeIttR (ittT x)) = (x, 0) by unfold ittT; rw [if_pos ox, takeItt_fwd ox]; rfl] at H2
  rw [show recOut (takeRecR (recT y)) = (y, 0) by rw [recT_eq, if_pos oy, takeRec_fwd oy]; rfl] at H4
  have h64 : decide ((64 : Int) < (value.size : Int)) = true := by simp [okV] at ov; simp; omega
  rw [show versionE value.data.toList true = 2 by unfold versionE; rw [ov]; rfl] at H5
  generalize (⟨(versionW value.data.toList true).toArray⟩ : ByteArray) = vt at H5 H6
  generalize takeVerR (versionW value.data.toList true) = vv at H6
  clear ox oy ov
  generalize (⟨(ittT x).toArray⟩ : ByteArray) = st at H1 H2
  generalize (⟨(recT y).toArray⟩ : ByteArray) = tt at H3 H4
  have BX := Lib.hid (heap_alloc_mono (heap_alloc_new w (.cells #[.int .i64 x.id, .int .i64 x.epoch, .int .i64 x.prio, .string x.anchor, .int .i64 x.sw, .int .i64 x.sl, .int .i64 x.bw, .int .i64 x.bl, .slice qx x.l.length cx] 39)) (.cells #[.int .i64 y.id, .int .i64 y.epoch, .int .i64 y.status, .int .i64 y.prio, .string y.anchor, .int .i64 y.sw, .int .i64 y.sl, .int .i64 y.bw, .int .i64 y.bl, .slice qy y.l.length cy] 47))
  have BY : Hid (((w.alloc (.cells #[.int .i64 x.id, .int .i64 x.epoch, .int .i64 x.prio, .string x.anchor, .int .i64 x.sw, .int .i64 x.sl, .int .i64 x.bw, .int .i64 x.bl, .slice qx x.l.length cx] 39)).alloc (.cells #[.int .i64 y.id, .int .i64 y.epoch, .int .i64 y.status, .int .i64 y.prio, .string y.anchor, .int .i64 y.sw, .int .i64 y.sl, .int .i64 y.bw, .int .i64 y.bl, .slice qy y.l.length cy] 47)).heap[w.heap.size + 1]? = some (.cells #[.int .i64 y.id, .int .i64 y.epoch, .int .i64 y.status, .int .i64 y.prio, .string y.anchor, .int .i64 y.sw, .int .i64 y.sl, .int .i64 y.bw, .int .i64 y.bl, .slice qy y.l.length cy] 47)) := Lib.hid (heap_newn (by simp))
  have HG := Lib.hid (((Gr.refl w).alloc (.cells #[.int .i64 x.id, .int .i64 x.epoch, .int .i64 x.prio, .string x.anchor, .int .i64 x.sw, .int .i64 x.sl, .int .i64 x.bw, .int .i64 x.bl, .slice qx x.l.length cx] 39)).alloc (.cells #[.int .i64 y.id, .int .i64 y.epoch, .int .i64 y.status, .int .i64 y.prio, .string y.anchor, .int .i64 y.sw, .int .i64 y.sl, .int .i64 y.bw, .int .i64 y.bl, .slice qy y.l.length cy] 47))
  have HRX := Lib.hid (RdC.gr hx HG.out)
  have HRY := Lib.hid (RdW.gr hy HG.out)
  clear hx hy
  go_enter Tryd.func9, Tryd.ntmps9
  obtain ⟨k_0, k_1, k_2, k_3, k_4, k_5, k_6, k_7, k_8, kg_0, kg_1, kg_2, kg_3, kg_4, kg_5, kg_6, kg_7, kg_8, kl⟩ := blk9 BX.out
  go_wp2_with fail
  refine (H1.out _ _ HRX.out).mono ?_
  rintro e w1 ⟨rfl, hg1⟩
  clear k_0 k_1 k_2 k_3 k_4 k_5 k_6 k_7 k_8 kg_0 kg_1 kg_2 kg_3 kg_4 kg_5 kg_6 kg_7 kg_8 kl
  have BX := Lib.hid (hg1.blk BX.out)
  have BY := Lib.hid (hg1.blk BY.out)
  have HRX := Lib.hid (HRX.out.gr hg1)
  have HRY := Lib.hid (HRY.out.gr hg1)
  have HG := Lib.hid (HG.out.trans hg1)
  clear hg1
  go_wp2_with fail
  refine (H2.out _).mono ?_
  rintro e w2 ⟨v2, rfl, hr2, hg2⟩
  obtain ⟨q2, c2, rfl⟩ := hr2.form
  have BX := Lib.hid (heap_alloc_mono (hg2.blk BX.out) (.cells #[.int .i64 x.id, .int .i64 x.epoch, .int .i64 x.prio, .string x.anchor, .int .i64 x.sw, .int .i64 x.sl, .int .i64 x.bw, .int .i64 x.bl, .slice q2 x.l.length c2] 39))
  have BY := Lib.hid (heap_alloc_mono (hg2.blk BY.out) (.cells #[.int .i64 x.id, .int .i64 x.epoch, .int .i64 x.prio, .string x.anchor, .int .i64 x.sw, .int .i64 x.sl, .int .i64 x.bw, .int .i64 x.bl, .slice q2 x.l.length c2] 39))
  have HRX := Lib.hid ((HRX.out.gr hg2).gr ((Gr.refl _).alloc (.cells #[.int .i64 x.id, .int .i64 x.epoch, .int .i64 x.prio, .string x.anchor, .int .i64 x.sw, .int .i64 x.sl, .int .i64 x.bw, .int .i64 x.bl, .slice q2 x.l.length c2] 39)))
  have HRY := Lib.hid ((HRY.out.gr hg2).gr ((Gr.refl _).alloc (.cells #[.int .i64 x.id, .int .i64 x.epoch, .int .i64 x.prio, .string x.anchor, .int .i64 x.sw, .int .i64 x.sl, .int .i64 x.bw, .int .i64 x.bl, .slice q2 x.l.length c2] 39)))
  have HG := Lib.hid ((HG.out.trans hg2).alloc (.cells #[.int .i64 x.id, .int .i64 x.epoch, .int .i64 x.prio, .string x.anchor, .int .i64 x.sw, .int .i64 x.sl, .int .i64 x.bw, .int .i64 x.bl, .slice q2 x.l.length c2] 39))
  clear hg2
  have HRA := Lib.hid (hr2.gr ((Gr.refl _).alloc (.cells #[.int .i64 x.id, .int .i64 x.epoch, .int .i64 x.prio, .string x.anchor, .int .i64 x.sw, .int .i64 x.sl, .int .i64 x.bw, .int .i64 x.bl, .slice q2 x.l.length c2] 39)))
  have BA := Lib.hid (heap_alloc_new w2 (.cells #[.int .i64 x.id, .int .i64 x.epoch, .int .i64 x.prio, .string x.anchor, .int .i64 x.sw, .int .i64 x.sl, .int .i64 x.bw, .int .i64 x.bl, .slice q2 x.l.length c2] 39))
  clear hr2
  obtain ⟨k_0, k_1, k_2, k_3, k_4, k_5, k_6, k_7, k_8, k_9, kg_0, kg_1, kg_2, kg_3, kg_4, kg_5, kg_6, kg_7, kg_8, kg_9, kl⟩ := blk10 BY.out
  go_wp2_with fail
  refine (H3.out _ _ HRY.out).mono ?_
  rintro e w3 ⟨rfl, hg3⟩
  clear k_0 k_1 k_2 k_3 k_4 k_5 k_6 k_7 k_8 k_9 kg_0 kg_1 kg_2 kg_3 kg_4 kg_5 kg_6 kg_7 kg_8 kg_9 kl
  have BX := Lib.hid (hg3.blk BX.out)
  have BY := Lib.hid (hg3.blk BY.out)
  have HRX := Lib.hid (HRX.out.gr hg3)
  have HRY := Lib.hid (HRY.out.gr hg3)
  have HRA := Lib.hid (HRA.out.gr hg3)
  have BA := Lib.hid (hg3.blk BA.out)
  have HG := Lib.hid (HG.out.trans hg3)
  clear hg3
  go_wp2_with fail
  refine (H4.out _).mono ?_
  rintro e w4 ⟨v4, rfl, hr4, hg4⟩
  obtain ⟨q4, c4, rfl⟩ := hr4.form
  have BX := Lib.hid (heap_alloc_mono (hg4.blk BX.out) (.cells #[.int .i64 y.id, .int .i64 y.epoch, .int .i64 y.status, .int .i64 y.prio, .string y.anchor, .int .i64 y.sw, .int .i64 y.sl, .int .i64 y.bw, .int .i64 y.bl, .slice q4 y.l.length c4] 47))
  have BY := Lib.hid (heap_alloc_mono (hg4.blk BY.out) (.cells #[.int .i64 y.id, .int .i64 y.epoch, .int .i64 y.status, .int .i64 y.prio, .string y.anchor, .int .i64 y.sw, .int .i64 y.sl, .int .i64 y.bw, .int .i64 y.bl, .slice q4 y.l.length c4] 47))
  have HRX := Lib.hid ((HRX.out.gr hg4).gr ((Gr.refl _).alloc (.cells #[.int .i64 y.id, .int .i64 y.epoch, .int .i64 y.status, .int .i64 y.prio, .string y.anchor, .int .i64 y.sw, .int .i64 y.sl, .int .i64 y.bw, .int .i64 y.bl, .slice q4 y.l.length c4] 47)))
  have HRY := Lib.hid ((HRY.out.gr hg4).gr ((Gr.refl _).alloc (.cells #[.int .i64 y.id, .int .i64 y.epoch, .int .i64 y.status, .int .i64 y.prio, .string y.anchor, .int .i64 y.sw, .int .i64 y.sl, .int .i64 y.bw, .int .i64 y.bl, .slice q4 y.l.length c4] 47)))
  have HRA := Lib.hid ((HRA.out.gr hg4).gr ((Gr.refl _).alloc (.cells #[.int .i64 y.id, .int .i64 y.epoch, .int .i64 y.status, .int .i64 y.prio, .string y.anchor, .int .i64 y.sw, .int .i64 y.sl, .int .i64 y.bw, .int .i64 y.bl, .slice q4 y.l.length c4] 47)))
  have BA := Lib.hid (heap_alloc_mono (hg4.blk BA.out) (.cells #[.int .i64 y.id, .int .i64 y.epoch, .int .i64 y.status, .int .i64 y.prio, .string y.anchor, .int .i64 y.sw, .int .i64 y.sl, .int .i64 y.bw, .int .i64 y.bl, .slice q4 y.l.length c4] 47))
  have HG := Lib.hid ((HG.out.trans hg4).alloc (.cells #[.int .i64 y.id, .int .i64 y.epoch, .int .i64 y.status, .int .i64 y.prio, .string y.anchor, .int .i64 y.sw, .int .i64 y.sl, .int .i64 y.bw, .int .i64 y.bl, .slice q4 y.l.length c4] 47))
  clear hg4
  have HRB := Lib.hid (hr4.gr ((Gr.refl _).alloc (.cells #[.int .i64 y.id, .int .i64 y.epoch, .int .i64 y.status, .int .i64 y.prio, .string y.anchor, .int .i64 y.sw, .int .i64 y.sl, .int .i64 y.bw, .int .i64 y.bl, .slice q4 y.l.length c4] 47)))
  have BB := Lib.hid (heap_alloc_new w4 (.cells #[.int .i64 y.id, .int .i64 y.epoch, .int .i64 y.status, .int .i64 y.prio, .string y.anchor, .int .i64 y.sw, .int .i64 y.sl, .int .i64 y.bw, .int .i64 y.bl, .slice q4 y.l.length c4] 47))
  clear hr4
  go_wp2_with fail
  refine (H5.out _).mono ?_
  rintro e w5 ⟨rfl, hg5⟩
  have BX := Lib.hid (hg5.blk BX.out)
  have BY := Lib.hid (hg5.blk BY.out)
  have HRX := Lib.hid (HRX.out.gr hg5)
  have HRY := Lib.hid (HRY.out.gr hg5)
  have HRA := Lib.hid (HRA.out.gr hg5)
  have BA := Lib.hid (hg5.blk BA.out)
  have HRB := Lib.hid (HRB.out.gr hg5)
  have BB := Lib.hid (hg5.blk BB.out)
  have HG := Lib.hid (HG.out.trans hg5)
  clear hg5
  go_wp2_with fail
  refine (H6.out _).mono ?_
  rintro e w6 ⟨rfl, hg6⟩
  have BX := Lib.hid (hg6.blk BX.out)
  have BY := Lib.hid (hg6.blk BY.out)
  have HRX := Lib.hid (HRX.out.gr hg6)
  have HRY := Lib.hid (HRY.out.gr hg6)
  have HRA := Lib.hid (HRA.out.gr hg6)
  have BA := Lib.hid (hg6.blk BA.out)
  have HRB := Lib.hid (HRB.out.gr hg6)
  have BB := Lib.hid (hg6.blk BB.out)
  have HG := Lib.hid (HG.out.trans hg6)
  clear hg6
  obtain ⟨ka_0, ka_1, ka_2, ka_3, ka_4, ka_5, ka_6, ka_7, ka_8, kag_0, kag_1, kag_2, kag_3, kag_4, kag_5, kag_6, kag_7, kag_8, kal⟩ := blk9 BX.out
  obtain ⟨kb_0, kb_1, kb_2, kb_3, kb_4, kb_5, kb_6, kb_7, kb_8, kbg_0, kbg_1, kbg_2, kbg_3, kbg_4, kbg_5, kbg_6, kbg_7, kbg_8, kbl⟩ := blk9 BA.out
  obtain ⟨kc_0, kc_1, kc_2, kc_3, kc_4, kc_5, kc_6, kc_7, kc_8, kc_9, kcg_0, kcg_1, kcg_2, kcg_3, kcg_4, kcg_5, kcg_6, kcg_7, kcg_8, kcg_9, kcl⟩ := blk10 BY.out
  obtain ⟨kd_0, kd_1, kd_2, kd_3, kd_4, kd_5, kd_6, kd_7, kd_8, kd_9, kdg_0, kdg_1, kdg_2, kdg_3, kdg_4, kdg_5, kdg_6, kdg_7, kdg_8, kdg_9, kdl⟩ := blk10 BB.out
  go_wp2_with fail
  refine (HSI.out _ _ _ HRA.out HRX.out (RdR.len HRX.out)).mono ?_
  rintro e w7 ⟨rfl, hg7⟩
  clear ka_0 ka_1 ka_2 ka_3 ka_4 ka_5 ka_6 ka_7 ka_8 kag_0 kag_1 kag_2 kag_3 kag_4 kag_5 kag_6 kag_7 kag_8 kal kb_0 kb_1 kb_2 kb_3 kb_4 kb_5 kb_6 kb_7 kb_8 kbg_0 kbg_1 kbg_2 kbg_3 kbg_4 kbg_5 kbg_6 kbg_7 kbg_8 kbl kc_0 kc_1 kc_2 kc_3 kc_4 kc_5 kc_6 kc_7 kc_8 kc_9 kcg_0 kcg_1 kcg_2 kcg_3 kcg_4 kcg_5 kcg_6 kcg_7 kcg_8 kcg_9 kcl kd_0 kd_1 kd_2 kd_3 kd_4 kd_5 kd_6 kd_7 kd_8 kd_9 kdg_0 kdg_1 kdg_2 kdg_3 kdg_4 kdg_5 kdg_6 kdg_7 kdg_8 kdg_9 kdl
  have BX := Lib.hid (hg7.blk BX.out)
  have BY := Lib.hid (hg7.blk BY.out)
  have HRX := Lib.hid (HRX.out.gr hg7)
  have HRY := Lib.hid (HRY.out.gr hg7)
  have HRA := Lib.hid (HRA.out.gr hg7)
  have BA := Lib.hid (hg7.blk BA.out)
  have HRB := Lib.hid (HRB.out.gr hg7)
  have BB := Lib.hid (hg7.blk BB.out)
  have HG := Lib.hid (HG.out.trans hg7)
  clear hg7
  obtain ⟨ka_0, ka_1, ka_2, ka_3, ka_4, ka_5, ka_6, ka_7, ka_8, kag_0, kag_1, kag_2, kag_3, kag_4, kag_5, kag_6, kag_7, kag_8, kal⟩ := blk9 BX.out
  obtain ⟨kb_0, kb_1, kb_2, kb_3, kb_4, kb_5, kb_6, kb_7, kb_8, kbg_0, kbg_1, kbg_2, kbg_3, kbg_4, kbg_5, kbg_6, kbg_7, kbg_8, kbl⟩ := blk9 BA.out
  obtain ⟨kc_0, kc_1, kc_2, kc_3, kc_4, kc_5, kc_6, kc_7, kc_8, kc_9, kcg_0, kcg_1, kcg_2, kcg_3, kcg_4, kcg_5, kcg_6, kcg_7, kcg_8, kcg_9, kcl⟩ := blk10 BY.out
  obtain ⟨kd_0, kd_1, kd_2, kd_3, kd_4, kd_5, kd_6, kd_7, kd_8, kd_9, kdg_0, kdg_1, kdg_2, kdg_3, kdg_4, kdg_5, kdg_6, kdg_7, kdg_8, kdg_9, kdl⟩ := blk10 BB.out
  go_wp2_with fail
  refine (HSR.out _ _ _ HRB.out HRY.out (RdR.len HRY.out)).mono ?_
  rintro e w8 ⟨rfl, hg8⟩
  clear ka_0 ka_1 ka_2 ka_3 ka_4 ka_5 ka_6 ka_7 ka_8 kag_0 kag_1 kag_2 kag_3 kag_4 kag_5 kag_6 kag_7 kag_8 kal kb_0 kb_1 kb_2 kb_3 kb_4 kb_5 kb_6 kb_7 kb_8 kbg_0 kbg_1 kbg_2 kbg_3 kbg_4 kbg_5 kbg_6 kbg_7 kbg_8 kbl kc_0 kc_1 kc_2 kc_3 kc_4 kc_5 kc_6 kc_7 kc_8 kc_9 kcg_0 kcg_1 kcg_2 kcg_3 kcg_4 kcg_5 kcg_6 kcg_7 kcg_8 kcg_9 kcl kd_0 kd_1 kd_2 kd_3 kd_4 kd_5 kd_6 kd_7 kd_8 kd_9 kdg_0 kdg_1 kdg_2 kdg_3 kdg_4 kdg_5 kdg_6 kdg_7 kdg_8 kdg_9 kdl
  have BX := Lib.hid (hg8.blk BX.out)
  have BY := Lib.hid (hg8.blk BY.out)
  have HRX := Lib.hid (HRX.out.gr hg8)
  have HRY := Lib.hid (HRY.out.gr hg8)
  have HRA := Lib.hid (HRA.out.gr hg8)
  have BA := Lib.hid (hg8.blk BA.out)
  have HRB := Lib.hid (HRB.out.gr hg8)
  have BB := Lib.hid (hg8.blk BB.out)
  have HG := Lib.hid (HG.out.trans hg8)
  clear hg8
  obtain ⟨ka_0, ka_1, ka_2, ka_3, ka_4, ka_5, ka_6, ka_7, ka_8, kag_0, kag_1, kag_2, kag_3, kag_4, kag_5, kag_6, kag_7, kag_8, kal⟩ := blk9 BX.out
  obtain ⟨kb_0, kb_1, kb_2, kb_3, kb_4, kb_5, kb_6, kb_7, kb_8, kbg_0, kbg_1, kbg_2, kbg_3, kbg_4, kbg_5, kbg_6, kbg_7, kbg_8, kbl⟩ := blk9 BA.out
  obtain ⟨kc_0, kc_1, kc_2, kc_3, kc_4, kc_5, kc_6, kc_7, kc_8, kc_9, kcg_0, kcg_1, kcg_2, kcg_3, kcg_4, kcg_5, kcg_6, kcg_7, kcg_8, kcg_9, kcl⟩ := blk10 BY.out
  obtain ⟨kd_0, kd_1, kd_2, kd_3, kd_4, kd_5, kd_6, kd_7, kd_8, kd_9, kdg_0, kdg_1, kdg_2, kdg_3, kdg_4, kdg_5, kdg_6, kdg_7, kdg_8, kdg_9, kdl⟩ := blk10 BB.out
  go_wp2_with fail
  refine (HAW.out _ (hsh.gr HG.out)).mono ?_
  rintro e w9 ⟨rfl, hg9⟩
  have hgF := HG.out.trans hg9
  go_wp2
  go_ret
  exact ⟨rfl, hgF⟩
set_option maxHeartbeats 8000000 in
theorem cellBack_101 {w : World} (x : Itt) (y : Rec) (value : ByteArray) {qx qy : Option Addr} {cx cy : Nat} (hx : RdC w (.slice qx x.l.length cx) x.l) (hy : RdW w (.slice qy y.l.length cy) y.l) (hlx : x.l.length ≤ 1048576) (hly : y.l.length ≤ 1048576) (hv : value.size ≤ 1048576) (hsh : Sh w)
    (ox : ittOk x = true) (oy : recOk y = false) (ov : okV value.data.toList true = true) :
    Calls Tryd.prog 9 #[.agg #[.int .i64 x.id, .int .i64 x.epoch, .int .i64 x.prio, .string x.anchor, .int .i64 x.sw, .int .i64 x.sl, .int .i64 x.bw, .int .i64 x.bl, .slice qx x.l.length cx], .agg #[.int .i64 y.id, .int .i64 y.epoch, .int .i64 y.status, .int .i64 y.prio, .string y.anchor, .int .i64 y.sw, .int .i64 y.sl, .int .i64 y.bw, .int .i64 y.bl, .slice qy y.l.length cy], .string value] w fun e w' => e = .returned (.bool true) ∧ Gr w w' := by
  have HAW := Lib.hid (fun (u : World) (hu : Sh u) => awake_any u hu)
  have hvl : value.data.toList.length = value.size := Array.length_toList
  have H1 := Lib.hid (fun (u : World) (v1 : Value) (h1 : RdC u v1 x.l) => cellIntent_any x h1 (by omega))
  have H2 := Lib.hid (fun u => takeIntent_any ⟨(ittT x).toArray⟩ (by rw [size_toArray]; have := ittT_len x; omega) u)
  have H3 := Lib.hid (fun (u : World) (v1 : Value) (h1 : RdW u v1 y.l) => cellRecord_any y h1 (by omega))
  have H4 := Lib.hid (fun u => takeRecord_any ⟨(recT y).toArray⟩ (by rw [size_toArray]; have := recT_len y; omega) u)
  have H5 := Lib.hid (fun u => cellVersion_any value true u)
  have H6 := Lib.hid (fun u => takeVersion_any ⟨(versionW value.data.toList true).toArray⟩ (by rw [size_toArray]; have := verW_len value.data.toList true; omega) u)
  have HSI := Lib.hid (fun (u : World) (v1 v2 : Value) (h1 : RdC u v1 x.l) (h2 : RdC u v2 x.l) (hl : x.l.length ≤ 9223372036854775807) => by have := refSame_any x x h1 h2 hl; rwa [eqItt_self] at this)
  have HSR := Lib.hid (fun (u : World) (v1 v2 : Value) (h1 : RdW u v1 y.l) (h2 : RdW u v2 y.l) (hl : y.l.length ≤ 9223372036854775807) => by have := refSameRecord_any y y h1 h2 hl; rwa [eqRec_self] at this)
  rw [toList_toArray] at H2 H4 H6
  rw [ox] at H1
  rw [oy] at H3
  rw [show ittOut (takeIttR (ittT x)) = (x, 0) by unfold ittT; rw [if_pos ox, takeItt_fwd ox]; rfl] at H2
  rw [show recT y = [] by unfold recT; rw [oy]; rfl] at H3 H4
  generalize recOut (takeRecR []) = o at H4
  obtain ⟨yb, eyb⟩ := o
  rw [show takeVerR (versionW value.data.toList true) = (value.data.toList, true, 0) from takeVer_fwd ov] at H6
  rw [show versionE value.data.toList true = 0 by unfold versionE; rw [if_pos ov]] at H5
  rw [show (⟨((value.data.toList, true, (0 : Int)) : List UInt8 × Bool × Int).1.toArray⟩ : ByteArray) = value from bytes_back value] at H6
  generalize (⟨(versionW value.data.toList true).toArray⟩ : ByteArray) = vt at H5 H6
  clear ox oy ov
  generalize (⟨(ittT x).toArray⟩ : ByteArray) = st at H1 H2
  have BX := Lib.hid (heap_alloc_mono (heap_alloc_new w (.cells #[.int .i64 x.id, .int .i64 x.epoch, .int .i64 x.prio, .string x.anchor, .int .i64 x.sw, .int .i64 x.sl, .int .i64 x.bw, .int .i64 x.bl, .slice qx x.l.length cx] 39)) (.cells #[.int .i64 y.id, .int .i64 y.epoch, .int .i64 y.status, .int .i64 y.prio, .string y.anchor, .int .i64 y.sw, .int .i64 y.sl, .int .i64 y.bw, .int .i64 y.bl, .slice qy y.l.length cy] 47))
  have BY : Hid (((w.alloc (.cells #[.int .i64 x.id, .int .i64 x.epoch, .int .i64 x.prio, .string x.anchor, .int .i64 x.sw, .int .i64 x.sl, .int .i64 x.bw, .int .i64 x.bl, .slice qx x.l.length cx] 39)).alloc (.cells #[.int .i64 y.id, .int .i64 y.epoch, .int .i64 y.status, .int .i64 y.prio, .string y.anchor, .int .i64 y.sw, .int .i64 y.sl, .int .i64 y.bw, .int .i64 y.bl, .slice qy y.l.length cy] 47)).heap[w.heap.size + 1]? = some (.cells #[.int .i64 y.id, .int .i64 y.epoch, .int .i64 y.status, .int .i64 y.prio, .string y.anchor, .int .i64 y.sw, .int .i64 y.sl, .int .i64 y.bw, .int .i64 y.bl, .slice qy y.l.length cy] 47)) := Lib.hid (heap_newn (by simp))
  have HG := Lib.hid (((Gr.refl w).alloc (.cells #[.int .i64 x.id, .int .i64 x.epoch, .int .i64 x.prio, .string x.anchor, .int .i64 x.sw, .int .i64 x.sl, .int .i64 x.bw, .int .i64 x.bl, .slice qx x.l.length cx] 39)).alloc (.cells #[.int .i64 y.id, .int .i64 y.epoch, .int .i64 y.status, .int .i64 y.prio, .string y.anchor, .int .i64 y.sw, .int .i64 y.sl, .int .i64 y.bw, .int .i64 y.bl, .slice qy y.l.length cy] 47))
  have HRX := Lib.hid (RdC.gr hx HG.out)
  have HRY := Lib.hid (RdW.gr hy HG.out)
  clear hx hy
  go_enter Tryd.func9, Tryd.ntmps9
  obtain ⟨k_0, k_1, k_2, k_3, k_4, k_5, k_6, k_7, k_8, kg_0, kg_1, kg_2, kg_3, kg_4, kg_5, kg_6, kg_7, kg_8, kl⟩ := blk9 BX.out
  go_wp2_with fail
  refine (H1.out _ _ HRX.out).mono ?_
  rintro e w1 ⟨rfl, hg1⟩
  clear k_0 k_1 k_2 k_3 k_4 k_5 k_6 k_7 k_8 kg_0 kg_1 kg_2 kg_3 kg_4 kg_5 kg_6 kg_7 kg_8 kl
  have BX := Lib.hid (hg1.blk BX.out)
  have BY := Lib.hid (hg1.blk BY.out)
  have HRX := Lib.hid (HRX.out.gr hg1)
  have HRY := Lib.hid (HRY.out.gr hg1)
  have HG := Lib.hid (HG.out.trans hg1)
  clear hg1
  go_wp2_with fail
  refine (H2.out _).mono ?_
  rintro e w2 ⟨v2, rfl, hr2, hg2⟩
  obtain ⟨q2, c2, rfl⟩ := hr2.form
  have BX := Lib.hid (heap_alloc_mono (hg2.blk BX.out) (.cells #[.int .i64 x.id, .int .i64 x.epoch, .int .i64 x.prio, .string x.anchor, .int .i64 x.sw, .int .i64 x.sl, .int .i64 x.bw, .int .i64 x.bl, .slice q2 x.l.length c2] 39))
  have BY := Lib.hid (heap_alloc_mono (hg2.blk BY.out) (.cells #[.int .i64 x.id, .int .i64 x.epoch, .int .i64 x.prio, .string x.anchor, .int .i64 x.sw, .int .i64 x.sl, .int .i64 x.bw, .int .i64 x.bl, .slice q2 x.l.length c2] 39))
  have HRX := Lib.hid ((HRX.out.gr hg2).gr ((Gr.refl _).alloc (.cells #[.int .i64 x.id, .int .i64 x.epoch, .int .i64 x.prio, .string x.anchor, .int .i64 x.sw, .int .i64 x.sl, .int .i64 x.bw, .int .i64 x.bl, .slice q2 x.l.length c2] 39)))
  have HRY := Lib.hid ((HRY.out.gr hg2).gr ((Gr.refl _).alloc (.cells #[.int .i64 x.id, .int .i64 x.epoch, .int .i64 x.prio, .string x.anchor, .int .i64 x.sw, .int .i64 x.sl, .int .i64 x.bw, .int .i64 x.bl, .slice q2 x.l.length c2] 39)))
  have HG := Lib.hid ((HG.out.trans hg2).alloc (.cells #[.int .i64 x.id, .int .i64 x.epoch, .int .i64 x.prio, .string x.anchor, .int .i64 x.sw, .int .i64 x.sl, .int .i64 x.bw, .int .i64 x.bl, .slice q2 x.l.length c2] 39))
  clear hg2
  have HRA := Lib.hid (hr2.gr ((Gr.refl _).alloc (.cells #[.int .i64 x.id, .int .i64 x.epoch, .int .i64 x.prio, .string x.anchor, .int .i64 x.sw, .int .i64 x.sl, .int .i64 x.bw, .int .i64 x.bl, .slice q2 x.l.length c2] 39)))
  have BA := Lib.hid (heap_alloc_new w2 (.cells #[.int .i64 x.id, .int .i64 x.epoch, .int .i64 x.prio, .string x.anchor, .int .i64 x.sw, .int .i64 x.sl, .int .i64 x.bw, .int .i64 x.bl, .slice q2 x.l.length c2] 39))
  clear hr2
  obtain ⟨k_0, k_1, k_2, k_3, k_4, k_5, k_6, k_7, k_8, k_9, kg_0, kg_1, kg_2, kg_3, kg_4, kg_5, kg_6, kg_7, kg_8, kg_9, kl⟩ := blk10 BY.out
  go_wp2_with fail
  refine (H3.out _ _ HRY.out).mono ?_
  rintro e w3 ⟨rfl, hg3⟩
  clear k_0 k_1 k_2 k_3 k_4 k_5 k_6 k_7 k_8 k_9 kg_0 kg_1 kg_2 kg_3 kg_4 kg_5 kg_6 kg_7 kg_8 kg_9 kl
  have BX := Lib.hid (hg3.blk BX.out)
  have BY := Lib.hid (hg3.blk BY.out)
  have HRX := Lib.hid (HRX.out.gr hg3)
  have HRY := Lib.hid (HRY.out.gr hg3)
  have HRA := Lib.hid (HRA.out.gr hg3)
  have BA := Lib.hid (hg3.blk BA.out)
  have HG := Lib.hid (HG.out.trans hg3)
  clear hg3
  go_wp2_with fail
  refine (H4.out _).mono ?_
  rintro e w4 ⟨v4, rfl, hr4, hg4⟩
  obtain ⟨q4, c4, rfl⟩ := hr4.form
  have BX := Lib.hid (heap_alloc_mono (hg4.blk BX.out) (.cells #[.int .i64 yb.id, .int .i64 yb.epoch, .int .i64 yb.status, .int .i64 yb.prio, .string yb.anchor, .int .i64 yb.sw, .int .i64 yb.sl, .int .i64 yb.bw, .int .i64 yb.bl, .slice q4 yb.l.length c4] 47))
  have BY := Lib.hid (heap_alloc_mono (hg4.blk BY.out) (.cells #[.int .i64 yb.id, .int .i64 yb.epoch, .int .i64 yb.status, .int .i64 yb.prio, .string yb.anchor, .int .i64 yb.sw, .int .i64 yb.sl, .int .i64 yb.bw, .int .i64 yb.bl, .slice q4 yb.l.length c4] 47))
  have HRX := Lib.hid ((HRX.out.gr hg4).gr ((Gr.refl _).alloc (.cells #[.int .i64 yb.id, .int .i64 yb.epoch, .int .i64 yb.status, .int .i64 yb.prio, .string yb.anchor, .int .i64 yb.sw, .int .i64 yb.sl, .int .i64 yb.bw, .int .i64 yb.bl, .slice q4 yb.l.length c4] 47)))
  have HRY := Lib.hid ((HRY.out.gr hg4).gr ((Gr.refl _).alloc (.cells #[.int .i64 yb.id, .int .i64 yb.epoch, .int .i64 yb.status, .int .i64 yb.prio, .string yb.anchor, .int .i64 yb.sw, .int .i64 yb.sl, .int .i64 yb.bw, .int .i64 yb.bl, .slice q4 yb.l.length c4] 47)))
  have HRA := Lib.hid ((HRA.out.gr hg4).gr ((Gr.refl _).alloc (.cells #[.int .i64 yb.id, .int .i64 yb.epoch, .int .i64 yb.status, .int .i64 yb.prio, .string yb.anchor, .int .i64 yb.sw, .int .i64 yb.sl, .int .i64 yb.bw, .int .i64 yb.bl, .slice q4 yb.l.length c4] 47)))
  have BA := Lib.hid (heap_alloc_mono (hg4.blk BA.out) (.cells #[.int .i64 yb.id, .int .i64 yb.epoch, .int .i64 yb.status, .int .i64 yb.prio, .string yb.anchor, .int .i64 yb.sw, .int .i64 yb.sl, .int .i64 yb.bw, .int .i64 yb.bl, .slice q4 yb.l.length c4] 47))
  have HG := Lib.hid ((HG.out.trans hg4).alloc (.cells #[.int .i64 yb.id, .int .i64 yb.epoch, .int .i64 yb.status, .int .i64 yb.prio, .string yb.anchor, .int .i64 yb.sw, .int .i64 yb.sl, .int .i64 yb.bw, .int .i64 yb.bl, .slice q4 yb.l.length c4] 47))
  clear hg4
  have HRB := Lib.hid (hr4.gr ((Gr.refl _).alloc (.cells #[.int .i64 yb.id, .int .i64 yb.epoch, .int .i64 yb.status, .int .i64 yb.prio, .string yb.anchor, .int .i64 yb.sw, .int .i64 yb.sl, .int .i64 yb.bw, .int .i64 yb.bl, .slice q4 yb.l.length c4] 47)))
  have BB := Lib.hid (heap_alloc_new w4 (.cells #[.int .i64 yb.id, .int .i64 yb.epoch, .int .i64 yb.status, .int .i64 yb.prio, .string yb.anchor, .int .i64 yb.sw, .int .i64 yb.sl, .int .i64 yb.bw, .int .i64 yb.bl, .slice q4 yb.l.length c4] 47))
  clear hr4
  go_wp2_with fail
  refine (H5.out _).mono ?_
  rintro e w5 ⟨rfl, hg5⟩
  have BX := Lib.hid (hg5.blk BX.out)
  have BY := Lib.hid (hg5.blk BY.out)
  have HRX := Lib.hid (HRX.out.gr hg5)
  have HRY := Lib.hid (HRY.out.gr hg5)
  have HRA := Lib.hid (HRA.out.gr hg5)
  have BA := Lib.hid (hg5.blk BA.out)
  have HRB := Lib.hid (HRB.out.gr hg5)
  have BB := Lib.hid (hg5.blk BB.out)
  have HG := Lib.hid (HG.out.trans hg5)
  clear hg5
  go_wp2_with fail
  refine (H6.out _).mono ?_
  rintro e w6 ⟨rfl, hg6⟩
  have BX := Lib.hid (hg6.blk BX.out)
  have BY := Lib.hid (hg6.blk BY.out)
  have HRX := Lib.hid (HRX.out.gr hg6)
  have HRY := Lib.hid (HRY.out.gr hg6)
  have HRA := Lib.hid (HRA.out.gr hg6)
  have BA := Lib.hid (hg6.blk BA.out)
  have HRB := Lib.hid (HRB.out.gr hg6)
  have BB := Lib.hid (hg6.blk BB.out)
  have HG := Lib.hid (HG.out.trans hg6)
  clear hg6
  obtain ⟨ka_0, ka_1, ka_2, ka_3, ka_4, ka_5, ka_6, ka_7, ka_8, kag_0, kag_1, kag_2, kag_3, kag_4, kag_5, kag_6, kag_7, kag_8, kal⟩ := blk9 BX.out
  obtain ⟨kb_0, kb_1, kb_2, kb_3, kb_4, kb_5, kb_6, kb_7, kb_8, kbg_0, kbg_1, kbg_2, kbg_3, kbg_4, kbg_5, kbg_6, kbg_7, kbg_8, kbl⟩ := blk9 BA.out
  obtain ⟨kc_0, kc_1, kc_2, kc_3, kc_4, kc_5, kc_6, kc_7, kc_8, kc_9, kcg_0, kcg_1, kcg_2, kcg_3, kcg_4, kcg_5, kcg_6, kcg_7, kcg_8, kcg_9, kcl⟩ := blk10 BY.out
  obtain ⟨kd_0, kd_1, kd_2, kd_3, kd_4, kd_5, kd_6, kd_7, kd_8, kd_9, kdg_0, kdg_1, kdg_2, kdg_3, kdg_4, kdg_5, kdg_6, kdg_7, kdg_8, kdg_9, kdl⟩ := blk10 BB.out
  go_wp2_with fail
  refine (HSI.out _ _ _ HRA.out HRX.out (RdR.len HRX.out)).mono ?_
  rintro e w7 ⟨rfl, hg7⟩
  clear ka_0 ka_1 ka_2 ka_3 ka_4 ka_5 ka_6 ka_7 ka_8 kag_0 kag_1 kag_2 kag_3 kag_4 kag_5 kag_6 kag_7 kag_8 kal kb_0 kb_1 kb_2 kb_3 kb_4 kb_5 kb_6 kb_7 kb_8 kbg_0 kbg_1 kbg_2 kbg_3 kbg_4 kbg_5 kbg_6 kbg_7 kbg_8 kbl kc_0 kc_1 kc_2 kc_3 kc_4 kc_5 kc_6 kc_7 kc_8 kc_9 kcg_0 kcg_1 kcg_2 kcg_3 kcg_4 kcg_5 kcg_6 kcg_7 kcg_8 kcg_9 kcl kd_0 kd_1 kd_2 kd_3 kd_4 kd_5 kd_6 kd_7 kd_8 kd_9 kdg_0 kdg_1 kdg_2 kdg_3 kdg_4 kdg_5 kdg_6 kdg_7 kdg_8 kdg_9 kdl
  have BX := Lib.hid (hg7.blk BX.out)
  have BY := Lib.hid (hg7.blk BY.out)
  have HRX := Lib.hid (HRX.out.gr hg7)
  have HRY := Lib.hid (HRY.out.gr hg7)
  have HRA := Lib.hid (HRA.out.gr hg7)
  have BA := Lib.hid (hg7.blk BA.out)
  have HRB := Lib.hid (HRB.out.gr hg7)
  have BB := Lib.hid (hg7.blk BB.out)
  have HG := Lib.hid (HG.out.trans hg7)
  clear hg7
  obtain ⟨ka_0, ka_1, ka_2, ka_3, ka_4, ka_5, ka_6, ka_7, ka_8, kag_0, kag_1, kag_2, kag_3, kag_4, kag_5, kag_6, kag_7, kag_8, kal⟩ := blk9 BX.out
  obtain ⟨kb_0, kb_1, kb_2, kb_3, kb_4, kb_5, kb_6, kb_7, kb_8, kbg_0, kbg_1, kbg_2, kbg_3, kbg_4, kbg_5, kbg_6, kbg_7, kbg_8, kbl⟩ := blk9 BA.out
  obtain ⟨kc_0, kc_1, kc_2, kc_3, kc_4, kc_5, kc_6, kc_7, kc_8, kc_9, kcg_0, kcg_1, kcg_2, kcg_3, kcg_4, kcg_5, kcg_6, kcg_7, kcg_8, kcg_9, kcl⟩ := blk10 BY.out
  obtain ⟨kd_0, kd_1, kd_2, kd_3, kd_4, kd_5, kd_6, kd_7, kd_8, kd_9, kdg_0, kdg_1, kdg_2, kdg_3, kdg_4, kdg_5, kdg_6, kdg_7, kdg_8, kdg_9, kdl⟩ := blk10 BB.out
  go_wp2_with fail
  refine (HAW.out _ (hsh.gr HG.out)).mono ?_
  rintro e w9 ⟨rfl, hg9⟩
  have hgF := HG.out.trans hg9
  go_wp2
  go_ret
  exact ⟨rfl, hgF⟩
set_option maxHeartbeats 8000000 in
theorem cellBack_100 {w : World} (x : Itt) (y : Rec) (value : ByteArray) {qx qy : Option Addr} {cx cy : Nat} (hx : RdC w (.slice qx x.l.length cx) x.l) (hy : RdW w (.slice qy y.l.length cy) y.l) (hlx : x.l.length ≤ 1048576) (hly : y.l.length ≤ 1048576) (hv : value.size ≤ 1048576) (hsh : Sh w)
    (ox : ittOk x = true) (oy : recOk y = false) (ov : okV value.data.toList true = false) :
    Calls Tryd.prog 9 #[.agg #[.int .i64 x.id, .int .i64 x.epoch, .int .i64 x.prio, .string x.anchor, .int .i64 x.sw, .int .i64 x.sl, .int .i64 x.bw, .int .i64 x.bl, .slice qx x.l.length cx], .agg #[.int .i64 y.id, .int .i64 y.epoch, .int .i64 y.status, .int .i64 y.prio, .string y.anchor, .int .i64 y.sw, .int .i64 y.sl, .int .i64 y.bw, .int .i64 y.bl, .slice qy y.l.length cy], .string value] w fun e w' => e = .returned (.bool true) ∧ Gr w w' := by
  have HAW := Lib.hid (fun (u : World) (hu : Sh u) => awake_any u hu)
  have hvl : value.data.toList.length = value.size := Array.length_toList
  have H1 := Lib.hid (fun (u : World) (v1 : Value) (h1 : RdC u v1 x.l) => cellIntent_any x h1 (by omega))
  have H2 := Lib.hid (fun u => takeIntent_any ⟨(ittT x).toArray⟩ (by rw [size_toArray]; have := ittT_len x; omega) u)
  have H3 := Lib.hid (fun (u : World) (v1 : Value) (h1 : RdW u v1 y.l) => cellRecord_any y h1 (by omega))
  have H4 := Lib.hid (fun u => takeRecord_any ⟨(recT y).toArray⟩ (by rw [size_toArray]; have := recT_len y; omega) u)
  have H5 := Lib.hid (fun u => cellVersion_any value true u)
  have H6 := Lib.hid (fun u => takeVersion_any ⟨(versionW value.data.toList true).toArray⟩ (by rw [size_toArray]; have := verW_len value.data.toList true; omega) u)
  have HSI := Lib.hid (fun (u : World) (v1 v2 : Value) (h1 : RdC u v1 x.l) (h2 : RdC u v2 x.l) (hl : x.l.length ≤ 9223372036854775807) => by have := refSame_any x x h1 h2 hl; rwa [eqItt_self] at this)
  have HSR := Lib.hid (fun (u : World) (v1 v2 : Value) (h1 : RdW u v1 y.l) (h2 : RdW u v2 y.l) (hl : y.l.length ≤ 9223372036854775807) => by have := refSameRecord_any y y h1 h2 hl; rwa [eqRec_self] at this)
  rw [toList_toArray] at H2 H4 H6
  rw [ox] at H1
  rw [oy] at H3
  rw [show ittOut (takeIttR (ittT x)) = (x, 0) by unfold ittT; rw [if_pos ox, takeItt_fwd ox]; rfl] at H2
  rw [show recT y = [] by unfold recT; rw [oy]; rfl] at H3 H4
  generalize recOut (takeRecR []) = o at H4
  obtain ⟨yb, eyb⟩ := o
  have h64 : decide ((64 : Int) < (value.size : Int)) = true := by simp [okV] at ov; simp; omega
  rw [show versionE value.data.toList true = 2 by unfold versionE; rw [ov]; rfl] at H5
  generalize (⟨(versionW value.data.toList true).toArray⟩ : ByteArray) = vt at H5 H6
  generalize takeVerR (versionW value.data.toList true) = vv at H6
  clear ox oy ov
  generalize (⟨(ittT x).toArray⟩ : ByteArray) = st at H1 H2
  have BX := Lib.hid (heap_alloc_mono (heap_alloc_new w (.cells #[.int .i64 x.id, .int .i64 x.epoch, .int .i64 x.prio, .string x.anchor, .int .i64 x.sw, .int .i64 x.sl, .int .i64 x.bw, .int .i64 x.bl, .slice qx x.l.length cx] 39)) (.cells #[.int .i64 y.id, .int .i64 y.epoch, .int .i64 y.status, .int .i64 y.prio, .string y.anchor, .int .i64 y.sw, .int .i64 y.sl, .int .i64 y.bw, .int .i64 y.bl, .slice qy y.l.length cy] 47))
  have BY : Hid (((w.alloc (.cells #[.int .i64 x.id, .int .i64 x.epoch, .int .i64 x.prio, .string x.anchor, .int .i64 x.sw, .int .i64 x.sl, .int .i64 x.bw, .int .i64 x.bl, .slice qx x.l.length cx] 39)).alloc (.cells #[.int .i64 y.id, .int .i64 y.epoch, .int .i64 y.status, .int .i64 y.prio, .string y.anchor, .int .i64 y.sw, .int .i64 y.sl, .int .i64 y.bw, .int .i64 y.bl, .slice qy y.l.length cy] 47)).heap[w.heap.size + 1]? = some (.cells #[.int .i64 y.id, .int .i64 y.epoch, .int .i64 y.status, .int .i64 y.prio, .string y.anchor, .int .i64 y.sw, .int .i64 y.sl, .int .i64 y.bw, .int .i64 y.bl, .slice qy y.l.length cy] 47)) := Lib.hid (heap_newn (by simp))
  have HG := Lib.hid (((Gr.refl w).alloc (.cells #[.int .i64 x.id, .int .i64 x.epoch, .int .i64 x.prio, .string x.anchor, .int .i64 x.sw, .int .i64 x.sl, .int .i64 x.bw, .int .i64 x.bl, .slice qx x.l.length cx] 39)).alloc (.cells #[.int .i64 y.id, .int .i64 y.epoch, .int .i64 y.status, .int .i64 y.prio, .string y.anchor, .int .i64 y.sw, .int .i64 y.sl, .int .i64 y.bw, .int .i64 y.bl, .slice qy y.l.length cy] 47))
  have HRX := Lib.hid (RdC.gr hx HG.out)
  have HRY := Lib.hid (RdW.gr hy HG.out)
  clear hx hy
  go_enter Tryd.func9, Tryd.ntmps9
  obtain ⟨k_0, k_1, k_2, k_3, k_4, k_5, k_6, k_7, k_8, kg_0, kg_1, kg_2, kg_3, kg_4, kg_5, kg_6, kg_7, kg_8, kl⟩ := blk9 BX.out
  go_wp2_with fail
  refine (H1.out _ _ HRX.out).mono ?_
  rintro e w1 ⟨rfl, hg1⟩
  clear k_0 k_1 k_2 k_3 k_4 k_5 k_6 k_7 k_8 kg_0 kg_1 kg_2 kg_3 kg_4 kg_5 kg_6 kg_7 kg_8 kl
  have BX := Lib.hid (hg1.blk BX.out)
  have BY := Lib.hid (hg1.blk BY.out)
  have HRX := Lib.hid (HRX.out.gr hg1)
  have HRY := Lib.hid (HRY.out.gr hg1)
  have HG := Lib.hid (HG.out.trans hg1)
  clear hg1
  go_wp2_with fail
  refine (H2.out _).mono ?_
  rintro e w2 ⟨v2, rfl, hr2, hg2⟩
  obtain ⟨q2, c2, rfl⟩ := hr2.form
  have BX := Lib.hid (heap_alloc_mono (hg2.blk BX.out) (.cells #[.int .i64 x.id, .int .i64 x.epoch, .int .i64 x.prio, .string x.anchor, .int .i64 x.sw, .int .i64 x.sl, .int .i64 x.bw, .int .i64 x.bl, .slice q2 x.l.length c2] 39))
  have BY := Lib.hid (heap_alloc_mono (hg2.blk BY.out) (.cells #[.int .i64 x.id, .int .i64 x.epoch, .int .i64 x.prio, .string x.anchor, .int .i64 x.sw, .int .i64 x.sl, .int .i64 x.bw, .int .i64 x.bl, .slice q2 x.l.length c2] 39))
  have HRX := Lib.hid ((HRX.out.gr hg2).gr ((Gr.refl _).alloc (.cells #[.int .i64 x.id, .int .i64 x.epoch, .int .i64 x.prio, .string x.anchor, .int .i64 x.sw, .int .i64 x.sl, .int .i64 x.bw, .int .i64 x.bl, .slice q2 x.l.length c2] 39)))
  have HRY := Lib.hid ((HRY.out.gr hg2).gr ((Gr.refl _).alloc (.cells #[.int .i64 x.id, .int .i64 x.epoch, .int .i64 x.prio, .string x.anchor, .int .i64 x.sw, .int .i64 x.sl, .int .i64 x.bw, .int .i64 x.bl, .slice q2 x.l.length c2] 39)))
  have HG := Lib.hid ((HG.out.trans hg2).alloc (.cells #[.int .i64 x.id, .int .i64 x.epoch, .int .i64 x.prio, .string x.anchor, .int .i64 x.sw, .int .i64 x.sl, .int .i64 x.bw, .int .i64 x.bl, .slice q2 x.l.length c2] 39))
  clear hg2
  have HRA := Lib.hid (hr2.gr ((Gr.refl _).alloc (.cells #[.int .i64 x.id, .int .i64 x.epoch, .int .i64 x.prio, .string x.anchor, .int .i64 x.sw, .int .i64 x.sl, .int .i64 x.bw, .int .i64 x.bl, .slice q2 x.l.length c2] 39)))
  have BA := Lib.hid (heap_alloc_new w2 (.cells #[.int .i64 x.id, .int .i64 x.epoch, .int .i64 x.prio, .string x.anchor, .int .i64 x.sw, .int .i64 x.sl, .int .i64 x.bw, .int .i64 x.bl, .slice q2 x.l.length c2] 39))
  clear hr2
  obtain ⟨k_0, k_1, k_2, k_3, k_4, k_5, k_6, k_7, k_8, k_9, kg_0, kg_1, kg_2, kg_3, kg_4, kg_5, kg_6, kg_7, kg_8, kg_9, kl⟩ := blk10 BY.out
  go_wp2_with fail
  refine (H3.out _ _ HRY.out).mono ?_
  rintro e w3 ⟨rfl, hg3⟩
  clear k_0 k_1 k_2 k_3 k_4 k_5 k_6 k_7 k_8 k_9 kg_0 kg_1 kg_2 kg_3 kg_4 kg_5 kg_6 kg_7 kg_8 kg_9 kl
  have BX := Lib.hid (hg3.blk BX.out)
  have BY := Lib.hid (hg3.blk BY.out)
  have HRX := Lib.hid (HRX.out.gr hg3)
  have HRY := Lib.hid (HRY.out.gr hg3)
  have HRA := Lib.hid (HRA.out.gr hg3)
  have BA := Lib.hid (hg3.blk BA.out)
  have HG := Lib.hid (HG.out.trans hg3)
  clear hg3
  go_wp2_with fail
  refine (H4.out _).mono ?_
  rintro e w4 ⟨v4, rfl, hr4, hg4⟩
  obtain ⟨q4, c4, rfl⟩ := hr4.form
  have BX := Lib.hid (heap_alloc_mono (hg4.blk BX.out) (.cells #[.int .i64 yb.id, .int .i64 yb.epoch, .int .i64 yb.status, .int .i64 yb.prio, .string yb.anchor, .int .i64 yb.sw, .int .i64 yb.sl, .int .i64 yb.bw, .int .i64 yb.bl, .slice q4 yb.l.length c4] 47))
  have BY := Lib.hid (heap_alloc_mono (hg4.blk BY.out) (.cells #[.int .i64 yb.id, .int .i64 yb.epoch, .int .i64 yb.status, .int .i64 yb.prio, .string yb.anchor, .int .i64 yb.sw, .int .i64 yb.sl, .int .i64 yb.bw, .int .i64 yb.bl, .slice q4 yb.l.length c4] 47))
  have HRX := Lib.hid ((HRX.out.gr hg4).gr ((Gr.refl _).alloc (.cells #[.int .i64 yb.id, .int .i64 yb.epoch, .int .i64 yb.status, .int .i64 yb.prio, .string yb.anchor, .int .i64 yb.sw, .int .i64 yb.sl, .int .i64 yb.bw, .int .i64 yb.bl, .slice q4 yb.l.length c4] 47)))
  have HRY := Lib.hid ((HRY.out.gr hg4).gr ((Gr.refl _).alloc (.cells #[.int .i64 yb.id, .int .i64 yb.epoch, .int .i64 yb.status, .int .i64 yb.prio, .string yb.anchor, .int .i64 yb.sw, .int .i64 yb.sl, .int .i64 yb.bw, .int .i64 yb.bl, .slice q4 yb.l.length c4] 47)))
  have HRA := Lib.hid ((HRA.out.gr hg4).gr ((Gr.refl _).alloc (.cells #[.int .i64 yb.id, .int .i64 yb.epoch, .int .i64 yb.status, .int .i64 yb.prio, .string yb.anchor, .int .i64 yb.sw, .int .i64 yb.sl, .int .i64 yb.bw, .int .i64 yb.bl, .slice q4 yb.l.length c4] 47)))
  have BA := Lib.hid (heap_alloc_mono (hg4.blk BA.out) (.cells #[.int .i64 yb.id, .int .i64 yb.epoch, .int .i64 yb.status, .int .i64 yb.prio, .string yb.anchor, .int .i64 yb.sw, .int .i64 yb.sl, .int .i64 yb.bw, .int .i64 yb.bl, .slice q4 yb.l.length c4] 47))
  have HG := Lib.hid ((HG.out.trans hg4).alloc (.cells #[.int .i64 yb.id, .int .i64 yb.epoch, .int .i64 yb.status, .int .i64 yb.prio, .string yb.anchor, .int .i64 yb.sw, .int .i64 yb.sl, .int .i64 yb.bw, .int .i64 yb.bl, .slice q4 yb.l.length c4] 47))
  clear hg4
  have HRB := Lib.hid (hr4.gr ((Gr.refl _).alloc (.cells #[.int .i64 yb.id, .int .i64 yb.epoch, .int .i64 yb.status, .int .i64 yb.prio, .string yb.anchor, .int .i64 yb.sw, .int .i64 yb.sl, .int .i64 yb.bw, .int .i64 yb.bl, .slice q4 yb.l.length c4] 47)))
  have BB := Lib.hid (heap_alloc_new w4 (.cells #[.int .i64 yb.id, .int .i64 yb.epoch, .int .i64 yb.status, .int .i64 yb.prio, .string yb.anchor, .int .i64 yb.sw, .int .i64 yb.sl, .int .i64 yb.bw, .int .i64 yb.bl, .slice q4 yb.l.length c4] 47))
  clear hr4
  go_wp2_with fail
  refine (H5.out _).mono ?_
  rintro e w5 ⟨rfl, hg5⟩
  have BX := Lib.hid (hg5.blk BX.out)
  have BY := Lib.hid (hg5.blk BY.out)
  have HRX := Lib.hid (HRX.out.gr hg5)
  have HRY := Lib.hid (HRY.out.gr hg5)
  have HRA := Lib.hid (HRA.out.gr hg5)
  have BA := Lib.hid (hg5.blk BA.out)
  have HRB := Lib.hid (HRB.out.gr hg5)
  have BB := Lib.hid (hg5.blk BB.out)
  have HG := Lib.hid (HG.out.trans hg5)
  clear hg5
  go_wp2_with fail
  refine (H6.out _).mono ?_
  rintro e w6 ⟨rfl, hg6⟩
  have BX := Lib.hid (hg6.blk BX.out)
  have BY := Lib.hid (hg6.blk BY.out)
  have HRX := Lib.hid (HRX.out.gr hg6)
  have HRY := Lib.hid (HRY.out.gr hg6)
  have HRA := Lib.hid (HRA.out.gr hg6)
  have BA := Lib.hid (hg6.blk BA.out)
  have HRB := Lib.hid (HRB.out.gr hg6)
  have BB := Lib.hid (hg6.blk BB.out)
  have HG := Lib.hid (HG.out.trans hg6)
  clear hg6
  obtain ⟨ka_0, ka_1, ka_2, ka_3, ka_4, ka_5, ka_6, ka_7, ka_8, kag_0, kag_1, kag_2, kag_3, kag_4, kag_5, kag_6, kag_7, kag_8, kal⟩ := blk9 BX.out
  obtain ⟨kb_0, kb_1, kb_2, kb_3, kb_4, kb_5, kb_6, kb_7, kb_8, kbg_0, kbg_1, kbg_2, kbg_3, kbg_4, kbg_5, kbg_6, kbg_7, kbg_8, kbl⟩ := blk9 BA.out
  obtain ⟨kc_0, kc_1, kc_2, kc_3, kc_4, kc_5, kc_6, kc_7, kc_8, kc_9, kcg_0, kcg_1, kcg_2, kcg_3, kcg_4, kcg_5, kcg_6, kcg_7, kcg_8, kcg_9, kcl⟩ := blk10 BY.out
  obtain ⟨kd_0, kd_1, kd_2, kd_3, kd_4, kd_5, kd_6, kd_7, kd_8, kd_9, kdg_0, kdg_1, kdg_2, kdg_3, kdg_4, kdg_5, kdg_6, kdg_7, kdg_8, kdg_9, kdl⟩ := blk10 BB.out
  go_wp2_with fail
  refine (HSI.out _ _ _ HRA.out HRX.out (RdR.len HRX.out)).mono ?_
  rintro e w7 ⟨rfl, hg7⟩
  clear ka_0 ka_1 ka_2 ka_3 ka_4 ka_5 ka_6 ka_7 ka_8 kag_0 kag_1 kag_2 kag_3 kag_4 kag_5 kag_6 kag_7 kag_8 kal kb_0 kb_1 kb_2 kb_3 kb_4 kb_5 kb_6 kb_7 kb_8 kbg_0 kbg_1 kbg_2 kbg_3 kbg_4 kbg_5 kbg_6 kbg_7 kbg_8 kbl kc_0 kc_1 kc_2 kc_3 kc_4 kc_5 kc_6 kc_7 kc_8 kc_9 kcg_0 kcg_1 kcg_2 kcg_3 kcg_4 kcg_5 kcg_6 kcg_7 kcg_8 kcg_9 kcl kd_0 kd_1 kd_2 kd_3 kd_4 kd_5 kd_6 kd_7 kd_8 kd_9 kdg_0 kdg_1 kdg_2 kdg_3 kdg_4 kdg_5 kdg_6 kdg_7 kdg_8 kdg_9 kdl
  have BX := Lib.hid (hg7.blk BX.out)
  have BY := Lib.hid (hg7.blk BY.out)
  have HRX := Lib.hid (HRX.out.gr hg7)
  have HRY := Lib.hid (HRY.out.gr hg7)
  have HRA := Lib.hid (HRA.out.gr hg7)
  have BA := Lib.hid (hg7.blk BA.out)
  have HRB := Lib.hid (HRB.out.gr hg7)
  have BB := Lib.hid (hg7.blk BB.out)
  have HG := Lib.hid (HG.out.trans hg7)
  clear hg7
  obtain ⟨ka_0, ka_1, ka_2, ka_3, ka_4, ka_5, ka_6, ka_7, ka_8, kag_0, kag_1, kag_2, kag_3, kag_4, kag_5, kag_6, kag_7, kag_8, kal⟩ := blk9 BX.out
  obtain ⟨kb_0, kb_1, kb_2, kb_3, kb_4, kb_5, kb_6, kb_7, kb_8, kbg_0, kbg_1, kbg_2, kbg_3, kbg_4, kbg_5, kbg_6, kbg_7, kbg_8, kbl⟩ := blk9 BA.out
  obtain ⟨kc_0, kc_1, kc_2, kc_3, kc_4, kc_5, kc_6, kc_7, kc_8, kc_9, kcg_0, kcg_1, kcg_2, kcg_3, kcg_4, kcg_5, kcg_6, kcg_7, kcg_8, kcg_9, kcl⟩ := blk10 BY.out
  obtain ⟨kd_0, kd_1, kd_2, kd_3, kd_4, kd_5, kd_6, kd_7, kd_8, kd_9, kdg_0, kdg_1, kdg_2, kdg_3, kdg_4, kdg_5, kdg_6, kdg_7, kdg_8, kdg_9, kdl⟩ := blk10 BB.out
  go_wp2_with fail
  refine (HAW.out _ (hsh.gr HG.out)).mono ?_
  rintro e w9 ⟨rfl, hg9⟩
  have hgF := HG.out.trans hg9
  go_wp2
  go_ret
  exact ⟨rfl, hgF⟩
set_option maxHeartbeats 8000000 in
theorem cellBack_011 {w : World} (x : Itt) (y : Rec) (value : ByteArray) {qx qy : Option Addr} {cx cy : Nat} (hx : RdC w (.slice qx x.l.length cx) x.l) (hy : RdW w (.slice qy y.l.length cy) y.l) (hlx : x.l.length ≤ 1048576) (hly : y.l.length ≤ 1048576) (hv : value.size ≤ 1048576) (hsh : Sh w)
    (ox : ittOk x = false) (oy : recOk y = true) (ov : okV value.data.toList true = true) :
    Calls Tryd.prog 9 #[.agg #[.int .i64 x.id, .int .i64 x.epoch, .int .i64 x.prio, .string x.anchor, .int .i64 x.sw, .int .i64 x.sl, .int .i64 x.bw, .int .i64 x.bl, .slice qx x.l.length cx], .agg #[.int .i64 y.id, .int .i64 y.epoch, .int .i64 y.status, .int .i64 y.prio, .string y.anchor, .int .i64 y.sw, .int .i64 y.sl, .int .i64 y.bw, .int .i64 y.bl, .slice qy y.l.length cy], .string value] w fun e w' => e = .returned (.bool true) ∧ Gr w w' := by
  have HAW := Lib.hid (fun (u : World) (hu : Sh u) => awake_any u hu)
  have hvl : value.data.toList.length = value.size := Array.length_toList
  have H1 := Lib.hid (fun (u : World) (v1 : Value) (h1 : RdC u v1 x.l) => cellIntent_any x h1 (by omega))
  have H2 := Lib.hid (fun u => takeIntent_any ⟨(ittT x).toArray⟩ (by rw [size_toArray]; have := ittT_len x; omega) u)
  have H3 := Lib.hid (fun (u : World) (v1 : Value) (h1 : RdW u v1 y.l) => cellRecord_any y h1 (by omega))
  have H4 := Lib.hid (fun u => takeRecord_any ⟨(recT y).toArray⟩ (by rw [size_toArray]; have := recT_len y; omega) u)
  have H5 := Lib.hid (fun u => cellVersion_any value true u)
  have H6 := Lib.hid (fun u => takeVersion_any ⟨(versionW value.data.toList true).toArray⟩ (by rw [size_toArray]; have := verW_len value.data.toList true; omega) u)
  have HSI := Lib.hid (fun (u : World) (v1 v2 : Value) (h1 : RdC u v1 x.l) (h2 : RdC u v2 x.l) (hl : x.l.length ≤ 9223372036854775807) => by have := refSame_any x x h1 h2 hl; rwa [eqItt_self] at this)
  have HSR := Lib.hid (fun (u : World) (v1 v2 : Value) (h1 : RdW u v1 y.l) (h2 : RdW u v2 y.l) (hl : y.l.length ≤ 9223372036854775807) => by have := refSameRecord_any y y h1 h2 hl; rwa [eqRec_self] at this)
  rw [toList_toArray] at H2 H4 H6
  rw [ox] at H1
  rw [oy] at H3
  rw [show ittT x = [] by unfold ittT; rw [ox]; rfl] at H1 H2
  generalize ittOut (takeIttR []) = o at H2
  obtain ⟨xb, eb⟩ := o
  rw [show recOut (takeRecR (recT y)) = (y, 0) by rw [recT_eq, if_pos oy, takeRec_fwd oy]; rfl] at H4
  rw [show takeVerR (versionW value.data.toList true) = (value.data.toList, true, 0) from takeVer_fwd ov] at H6
  rw [show versionE value.data.toList true = 0 by unfold versionE; rw [if_pos ov]] at H5
  rw [show (⟨((value.data.toList, true, (0 : Int)) : List UInt8 × Bool × Int).1.toArray⟩ : ByteArray) = value from bytes_back value] at H6
  generalize (⟨(versionW value.data.toList true).toArray⟩ : ByteArray) = vt at H5 H6
  clear ox oy ov
  generalize (⟨(recT y).toArray⟩ : ByteArray) = tt at H3 H4
  have BX := Lib.hid (heap_alloc_mono (heap_alloc_new w (.cells #[.int .i64 x.id, .int .i64 x.epoch, .int .i64 x.prio, .string x.anchor, .int .i64 x.sw, .int .i64 x.sl, .int .i64 x.bw, .int .i64 x.bl, .slice qx x.l.length cx] 39)) (.cells #[.int .i64 y.id, .int .i64 y.epoch, .int .i64 y.status, .int .i64 y.prio, .string y.anchor, .int .i64 y.sw, .int .i64 y.sl, .int .i64 y.bw, .int .i64 y.bl, .slice qy y.l.length cy] 47))
  have BY : Hid (((w.alloc (.cells #[.int .i64 x.id, .int .i64 x.epoch, .int .i64 x.prio, .string x.anchor, .int .i64 x.sw, .int .i64 x.sl, .int .i64 x.bw, .int .i64 x.bl, .slice qx x.l.length cx] 39)).alloc (.cells #[.int .i64 y.id, .int .i64 y.epoch, .int .i64 y.status, .int .i64 y.prio, .string y.anchor, .int .i64 y.sw, .int .i64 y.sl, .int .i64 y.bw, .int .i64 y.bl, .slice qy y.l.length cy] 47)).heap[w.heap.size + 1]? = some (.cells #[.int .i64 y.id, .int .i64 y.epoch, .int .i64 y.status, .int .i64 y.prio, .string y.anchor, .int .i64 y.sw, .int .i64 y.sl, .int .i64 y.bw, .int .i64 y.bl, .slice qy y.l.length cy] 47)) := Lib.hid (heap_newn (by simp))
  have HG := Lib.hid (((Gr.refl w).alloc (.cells #[.int .i64 x.id, .int .i64 x.epoch, .int .i64 x.prio, .string x.anchor, .int .i64 x.sw, .int .i64 x.sl, .int .i64 x.bw, .int .i64 x.bl, .slice qx x.l.length cx] 39)).alloc (.cells #[.int .i64 y.id, .int .i64 y.epoch, .int .i64 y.status, .int .i64 y.prio, .string y.anchor, .int .i64 y.sw, .int .i64 y.sl, .int .i64 y.bw, .int .i64 y.bl, .slice qy y.l.length cy] 47))
  have HRX := Lib.hid (RdC.gr hx HG.out)
  have HRY := Lib.hid (RdW.gr hy HG.out)
  clear hx hy
  go_enter Tryd.func9, Tryd.ntmps9
  obtain ⟨k_0, k_1, k_2, k_3, k_4, k_5, k_6, k_7, k_8, kg_0, kg_1, kg_2, kg_3, kg_4, kg_5, kg_6, kg_7, kg_8, kl⟩ := blk9 BX.out
  go_wp2_with fail
  refine (H1.out _ _ HRX.out).mono ?_
  rintro e w1 ⟨rfl, hg1⟩
  clear k_0 k_1 k_2 k_3 k_4 k_5 k_6 k_7 k_8 kg_0 kg_1 kg_2 kg_3 kg_4 kg_5 kg_6 kg_7 kg_8 kl
  have BX := Lib.hid (hg1.blk BX.out)
  have BY := Lib.hid (hg1.blk BY.out)
  have HRX := Lib.hid (HRX.out.gr hg1)
  have HRY := Lib.hid (HRY.out.gr hg1)
  have HG := Lib.hid (HG.out.trans hg1)
  clear hg1
  go_wp2_with fail
  refine (H2.out _).mono ?_
  rintro e w2 ⟨v2, rfl, hr2, hg2⟩
  obtain ⟨q2, c2, rfl⟩ := hr2.form
  have BX := Lib.hid (heap_alloc_mono (hg2.blk BX.out) (.cells #[.int .i64 xb.id, .int .i64 xb.epoch, .int .i64 xb.prio, .string xb.anchor, .int .i64 xb.sw, .int .i64 xb.sl, .int .i64 xb.bw, .int .i64 xb.bl, .slice q2 xb.l.length c2] 39))
  have BY := Lib.hid (heap_alloc_mono (hg2.blk BY.out) (.cells #[.int .i64 xb.id, .int .i64 xb.epoch, .int .i64 xb.prio, .string xb.anchor, .int .i64 xb.sw, .int .i64 xb.sl, .int .i64 xb.bw, .int .i64 xb.bl, .slice q2 xb.l.length c2] 39))
  have HRX := Lib.hid ((HRX.out.gr hg2).gr ((Gr.refl _).alloc (.cells #[.int .i64 xb.id, .int .i64 xb.epoch, .int .i64 xb.prio, .string xb.anchor, .int .i64 xb.sw, .int .i64 xb.sl, .int .i64 xb.bw, .int .i64 xb.bl, .slice q2 xb.l.length c2] 39)))
  have HRY := Lib.hid ((HRY.out.gr hg2).gr ((Gr.refl _).alloc (.cells #[.int .i64 xb.id, .int .i64 xb.epoch, .int .i64 xb.prio, .string xb.anchor, .int .i64 xb.sw, .int .i64 xb.sl, .int .i64 xb.bw, .int .i64 xb.bl, .slice q2 xb.l.length c2] 39)))
  have HG := Lib.hid ((HG.out.trans hg2).alloc (.cells #[.int .i64 xb.id, .int .i64 xb.epoch, .int .i64 xb.prio, .string xb.anchor, .int .i64 xb.sw, .int .i64 xb.sl, .int .i64 xb.bw, .int .i64 xb.bl, .slice q2 xb.l.length c2] 39))
  clear hg2
  have HRA := Lib.hid (hr2.gr ((Gr.refl _).alloc (.cells #[.int .i64 xb.id, .int .i64 xb.epoch, .int .i64 xb.prio, .string xb.anchor, .int .i64 xb.sw, .int .i64 xb.sl, .int .i64 xb.bw, .int .i64 xb.bl, .slice q2 xb.l.length c2] 39)))
  have BA := Lib.hid (heap_alloc_new w2 (.cells #[.int .i64 xb.id, .int .i64 xb.epoch, .int .i64 xb.prio, .string xb.anchor, .int .i64 xb.sw, .int .i64 xb.sl, .int .i64 xb.bw, .int .i64 xb.bl, .slice q2 xb.l.length c2] 39))
  clear hr2
  obtain ⟨k_0, k_1, k_2, k_3, k_4, k_5, k_6, k_7, k_8, k_9, kg_0, kg_1, kg_2, kg_3, kg_4, kg_5, kg_6, kg_7, kg_8, kg_9, kl⟩ := blk10 BY.out
  go_wp2_with fail
  refine (H3.out _ _ HRY.out).mono ?_
  rintro e w3 ⟨rfl, hg3⟩
  clear k_0 k_1 k_2 k_3 k_4 k_5 k_6 k_7 k_8 k_9 kg_0 kg_1 kg_2 kg_3 kg_4 kg_5 kg_6 kg_7 kg_8 kg_9 kl
  have BX := Lib.hid (hg3.blk BX.out)
  have BY := Lib.hid (hg3.blk BY.out)
  have HRX := Lib.hid (HRX.out.gr hg3)
  have HRY := Lib.hid (HRY.out.gr hg3)
  have HRA := Lib.hid (HRA.out.gr hg3)
  have BA := Lib.hid (hg3.blk BA.out)
  have HG := Lib.hid (HG.out.trans hg3)
  clear hg3
  go_wp2_with fail
  refine (H4.out _).mono ?_
  rintro e w4 ⟨v4, rfl, hr4, hg4⟩
  obtain ⟨q4, c4, rfl⟩ := hr4.form
  have BX := Lib.hid (heap_alloc_mono (hg4.blk BX.out) (.cells #[.int .i64 y.id, .int .i64 y.epoch, .int .i64 y.status, .int .i64 y.prio, .string y.anchor, .int .i64 y.sw, .int .i64 y.sl, .int .i64 y.bw, .int .i64 y.bl, .slice q4 y.l.length c4] 47))
  have BY := Lib.hid (heap_alloc_mono (hg4.blk BY.out) (.cells #[.int .i64 y.id, .int .i64 y.epoch, .int .i64 y.status, .int .i64 y.prio, .string y.anchor, .int .i64 y.sw, .int .i64 y.sl, .int .i64 y.bw, .int .i64 y.bl, .slice q4 y.l.length c4] 47))
  have HRX := Lib.hid ((HRX.out.gr hg4).gr ((Gr.refl _).alloc (.cells #[.int .i64 y.id, .int .i64 y.epoch, .int .i64 y.status, .int .i64 y.prio, .string y.anchor, .int .i64 y.sw, .int .i64 y.sl, .int .i64 y.bw, .int .i64 y.bl, .slice q4 y.l.length c4] 47)))
  have HRY := Lib.hid ((HRY.out.gr hg4).gr ((Gr.refl _).alloc (.cells #[.int .i64 y.id, .int .i64 y.epoch, .int .i64 y.status, .int .i64 y.prio, .string y.anchor, .int .i64 y.sw, .int .i64 y.sl, .int .i64 y.bw, .int .i64 y.bl, .slice q4 y.l.length c4] 47)))
  have HRA := Lib.hid ((HRA.out.gr hg4).gr ((Gr.refl _).alloc (.cells #[.int .i64 y.id, .int .i64 y.epoch, .int .i64 y.status, .int .i64 y.prio, .string y.anchor, .int .i64 y.sw, .int .i64 y.sl, .int .i64 y.bw, .int .i64 y.bl, .slice q4 y.l.length c4] 47)))
  have BA := Lib.hid (heap_alloc_mono (hg4.blk BA.out) (.cells #[.int .i64 y.id, .int .i64 y.epoch, .int .i64 y.status, .int .i64 y.prio, .string y.anchor, .int .i64 y.sw, .int .i64 y.sl, .int .i64 y.bw, .int .i64 y.bl, .slice q4 y.l.length c4] 47))
  have HG := Lib.hid ((HG.out.trans hg4).alloc (.cells #[.int .i64 y.id, .int .i64 y.epoch, .int .i64 y.status, .int .i64 y.prio, .string y.anchor, .int .i64 y.sw, .int .i64 y.sl, .int .i64 y.bw, .int .i64 y.bl, .slice q4 y.l.length c4] 47))
  clear hg4
  have HRB := Lib.hid (hr4.gr ((Gr.refl _).alloc (.cells #[.int .i64 y.id, .int .i64 y.epoch, .int .i64 y.status, .int .i64 y.prio, .string y.anchor, .int .i64 y.sw, .int .i64 y.sl, .int .i64 y.bw, .int .i64 y.bl, .slice q4 y.l.length c4] 47)))
  have BB := Lib.hid (heap_alloc_new w4 (.cells #[.int .i64 y.id, .int .i64 y.epoch, .int .i64 y.status, .int .i64 y.prio, .string y.anchor, .int .i64 y.sw, .int .i64 y.sl, .int .i64 y.bw, .int .i64 y.bl, .slice q4 y.l.length c4] 47))
  clear hr4
  go_wp2_with fail
  refine (H5.out _).mono ?_
  rintro e w5 ⟨rfl, hg5⟩
  have BX := Lib.hid (hg5.blk BX.out)
  have BY := Lib.hid (hg5.blk BY.out)
  have HRX := Lib.hid (HRX.out.gr hg5)
  have HRY := Lib.hid (HRY.out.gr hg5)
  have HRA := Lib.hid (HRA.out.gr hg5)
  have BA := Lib.hid (hg5.blk BA.out)
  have HRB := Lib.hid (HRB.out.gr hg5)
  have BB := Lib.hid (hg5.blk BB.out)
  have HG := Lib.hid (HG.out.trans hg5)
  clear hg5
  go_wp2_with fail
  refine (H6.out _).mono ?_
  rintro e w6 ⟨rfl, hg6⟩
  have BX := Lib.hid (hg6.blk BX.out)
  have BY := Lib.hid (hg6.blk BY.out)
  have HRX := Lib.hid (HRX.out.gr hg6)
  have HRY := Lib.hid (HRY.out.gr hg6)
  have HRA := Lib.hid (HRA.out.gr hg6)
  have BA := Lib.hid (hg6.blk BA.out)
  have HRB := Lib.hid (HRB.out.gr hg6)
  have BB := Lib.hid (hg6.blk BB.out)
  have HG := Lib.hid (HG.out.trans hg6)
  clear hg6
  obtain ⟨ka_0, ka_1, ka_2, ka_3, ka_4, ka_5, ka_6, ka_7, ka_8, kag_0, kag_1, kag_2, kag_3, kag_4, kag_5, kag_6, kag_7, kag_8, kal⟩ := blk9 BX.out
  obtain ⟨kb_0, kb_1, kb_2, kb_3, kb_4, kb_5, kb_6, kb_7, kb_8, kbg_0, kbg_1, kbg_2, kbg_3, kbg_4, kbg_5, kbg_6, kbg_7, kbg_8, kbl⟩ := blk9 BA.out
  obtain ⟨kc_0, kc_1, kc_2, kc_3, kc_4, kc_5, kc_6, kc_7, kc_8, kc_9, kcg_0, kcg_1, kcg_2, kcg_3, kcg_4, kcg_5, kcg_6, kcg_7, kcg_8, kcg_9, kcl⟩ := blk10 BY.out
  obtain ⟨kd_0, kd_1, kd_2, kd_3, kd_4, kd_5, kd_6, kd_7, kd_8, kd_9, kdg_0, kdg_1, kdg_2, kdg_3, kdg_4, kdg_5, kdg_6, kdg_7, kdg_8, kdg_9, kdl⟩ := blk10 BB.out
  go_wp2_with fail
  refine (HSR.out _ _ _ HRB.out HRY.out (RdR.len HRY.out)).mono ?_
  rintro e w8 ⟨rfl, hg8⟩
  clear ka_0 ka_1 ka_2 ka_3 ka_4 ka_5 ka_6 ka_7 ka_8 kag_0 kag_1 kag_2 kag_3 kag_4 kag_5 kag_6 kag_7 kag_8 kal kb_0 kb_1 kb_2 kb_3 kb_4 kb_5 kb_6 kb_7 kb_8 kbg_0 kbg_1 kbg_2 kbg_3 kbg_4 kbg_5 kbg_6 kbg_7 kbg_8 kbl kc_0 kc_1 kc_2 kc_3 kc_4 kc_5 kc_6 kc_7 kc_8 kc_9 kcg_0 kcg_1 kcg_2 kcg_3 kcg_4 kcg_5 kcg_6 kcg_7 kcg_8 kcg_9 kcl kd_0 kd_1 kd_2 kd_3 kd_4 kd_5 kd_6 kd_7 kd_8 kd_9 kdg_0 kdg_1 kdg_2 kdg_3 kdg_4 kdg_5 kdg_6 kdg_7 kdg_8 kdg_9 kdl
  have BX := Lib.hid (hg8.blk BX.out)
  have BY := Lib.hid (hg8.blk BY.out)
  have HRX := Lib.hid (HRX.out.gr hg8)
  have HRY := Lib.hid (HRY.out.gr hg8)
  have HRA := Lib.hid (HRA.out.gr hg8)
  have BA := Lib.hid (hg8.blk BA.out)
  have HRB := Lib.hid (HRB.out.gr hg8)
  have BB := Lib.hid (hg8.blk BB.out)
  have HG := Lib.hid (HG.out.trans hg8)
  clear hg8
  obtain ⟨ka_0, ka_1, ka_2, ka_3, ka_4, ka_5, ka_6, ka_7, ka_8, kag_0, kag_1, kag_2, kag_3, kag_4, kag_5, kag_6, kag_7, kag_8, kal⟩ := blk9 BX.out
  obtain ⟨kb_0, kb_1, kb_2, kb_3, kb_4, kb_5, kb_6, kb_7, kb_8, kbg_0, kbg_1, kbg_2, kbg_3, kbg_4, kbg_5, kbg_6, kbg_7, kbg_8, kbl⟩ := blk9 BA.out
  obtain ⟨kc_0, kc_1, kc_2, kc_3, kc_4, kc_5, kc_6, kc_7, kc_8, kc_9, kcg_0, kcg_1, kcg_2, kcg_3, kcg_4, kcg_5, kcg_6, kcg_7, kcg_8, kcg_9, kcl⟩ := blk10 BY.out
  obtain ⟨kd_0, kd_1, kd_2, kd_3, kd_4, kd_5, kd_6, kd_7, kd_8, kd_9, kdg_0, kdg_1, kdg_2, kdg_3, kdg_4, kdg_5, kdg_6, kdg_7, kdg_8, kdg_9, kdl⟩ := blk10 BB.out
  go_wp2_with fail
  refine (HAW.out _ (hsh.gr HG.out)).mono ?_
  rintro e w9 ⟨rfl, hg9⟩
  have hgF := HG.out.trans hg9
  go_wp2
  go_ret
  exact ⟨rfl, hgF⟩
set_option maxHeartbeats 8000000 in
theorem cellBack_010 {w : World} (x : Itt) (y : Rec) (value : ByteArray) {qx qy : Option Addr} {cx cy : Nat} (hx : RdC w (.slice qx x.l.length cx) x.l) (hy : RdW w (.slice qy y.l.length cy) y.l) (hlx : x.l.length ≤ 1048576) (hly : y.l.length ≤ 1048576) (hv : value.size ≤ 1048576) (hsh : Sh w)
    (ox : ittOk x = false) (oy : recOk y = true) (ov : okV value.data.toList true = false) :
    Calls Tryd.prog 9 #[.agg #[.int .i64 x.id, .int .i64 x.epoch, .int .i64 x.prio, .string x.anchor, .int .i64 x.sw, .int .i64 x.sl, .int .i64 x.bw, .int .i64 x.bl, .slice qx x.l.length cx], .agg #[.int .i64 y.id, .int .i64 y.epoch, .int .i64 y.status, .int .i64 y.prio, .string y.anchor, .int .i64 y.sw, .int .i64 y.sl, .int .i64 y.bw, .int .i64 y.bl, .slice qy y.l.length cy], .string value] w fun e w' => e = .returned (.bool true) ∧ Gr w w' := by
  have HAW := Lib.hid (fun (u : World) (hu : Sh u) => awake_any u hu)
  have hvl : value.data.toList.length = value.size := Array.length_toList
  have H1 := Lib.hid (fun (u : World) (v1 : Value) (h1 : RdC u v1 x.l) => cellIntent_any x h1 (by omega))
  have H2 := Lib.hid (fun u => takeIntent_any ⟨(ittT x).toArray⟩ (by rw [size_toArray]; have := ittT_len x; omega) u)
  have H3 := Lib.hid (fun (u : World) (v1 : Value) (h1 : RdW u v1 y.l) => cellRecord_any y h1 (by omega))
  have H4 := Lib.hid (fun u => takeRecord_any ⟨(recT y).toArray⟩ (by rw [size_toArray]; have := recT_len y; omega) u)
  have H5 := Lib.hid (fun u => cellVersion_any value true u)
  have H6 := Lib.hid (fun u => takeVersion_any ⟨(versionW value.data.toList true).toArray⟩ (by rw [size_toArray]; have := verW_len value.data.toList true; omega) u)
  have HSI := Lib.hid (fun (u : World) (v1 v2 : Value) (h1 : RdC u v1 x.l) (h2 : RdC u v2 x.l) (hl : x.l.length ≤ 9223372036854775807) => by have := refSame_any x x h1 h2 hl; rwa [eqItt_self] at this)
  have HSR := Lib.hid (fun (u : World) (v1 v2 : Value) (h1 : RdW u v1 y.l) (h2 : RdW u v2 y.l) (hl : y.l.length ≤ 9223372036854775807) => by have := refSameRecord_any y y h1 h2 hl; rwa [eqRec_self] at this)
  rw [toList_toArray] at H2 H4 H6
  rw [ox] at H1
  rw [oy] at H3
  rw [show ittT x = [] by unfold ittT; rw [ox]; rfl] at H1 H2
  generalize ittOut (takeIttR []) = o at H2
  obtain ⟨xb, eb⟩ := o
  rw [show recOut (takeRecR (recT y)) = (y, 0) by rw [recT_eq, if_pos oy, takeRec_fwd oy]; rfl] at H4
  have h64 : decide ((64 : Int) < (value.size : Int)) = true := by simp [okV] at ov; simp; omega
  rw [show versionE value.data.toList true = 2 by unfold versionE; rw [ov]; rfl] at H5
  generalize (⟨(versionW value.data.toList true).toArray⟩ : ByteArray) = vt at H5 H6
  generalize takeVerR (versionW value.data.toList true) = vv at H6
  clear ox oy ov
  generalize (⟨(recT y).toArray⟩ : ByteArray) = tt at H3 H4
  have BX := Lib.hid (heap_alloc_mono (heap_alloc_new w (.cells #[.int .i64 x.id, .int .i64 x.epoch, .int .i64 x.prio, .string x.anchor, .int .i64 x.sw, .int .i64 x.sl, .int .i64 x.bw, .int .i64 x.bl, .slice qx x.l.length cx] 39)) (.cells #[.int .i64 y.id, .int .i64 y.epoch, .int .i64 y.status, .int .i64 y.prio, .string y.anchor, .int .i64 y.sw, .int .i64 y.sl, .int .i64 y.bw, .int .i64 y.bl, .slice qy y.l.length cy] 47))
  have BY : Hid (((w.alloc (.cells #[.int .i64 x.id, .int .i64 x.epoch, .int .i64 x.prio, .string x.anchor, .int .i64 x.sw, .int .i64 x.sl, .int .i64 x.bw, .int .i64 x.bl, .slice qx x.l.length cx] 39)).alloc (.cells #[.int .i64 y.id, .int .i64 y.epoch, .int .i64 y.status, .int .i64 y.prio, .string y.anchor, .int .i64 y.sw, .int .i64 y.sl, .int .i64 y.bw, .int .i64 y.bl, .slice qy y.l.length cy] 47)).heap[w.heap.size + 1]? = some (.cells #[.int .i64 y.id, .int .i64 y.epoch, .int .i64 y.status, .int .i64 y.prio, .string y.anchor, .int .i64 y.sw, .int .i64 y.sl, .int .i64 y.bw, .int .i64 y.bl, .slice qy y.l.length cy] 47)) := Lib.hid (heap_newn (by simp))
  have HG := Lib.hid (((Gr.refl w).alloc (.cells #[.int .i64 x.id, .int .i64 x.epoch, .int .i64 x.prio, .string x.anchor, .int .i64 x.sw, .int .i64 x.sl, .int .i64 x.bw, .int .i64 x.bl, .slice qx x.l.length cx] 39)).alloc (.cells #[.int .i64 y.id, .int .i64 y.epoch, .int .i64 y.status, .int .i64 y.prio, .string y.anchor, .int .i64 y.sw, .int .i64 y.sl, .int .i64 y.bw, .int .i64 y.bl, .slice qy y.l.length cy] 47))
  have HRX := Lib.hid (RdC.gr hx HG.out)
  have HRY := Lib.hid (RdW.gr hy HG.out)
  clear hx hy
  go_enter Tryd.func9, Tryd.ntmps9
  obtain ⟨k_0, k_1, k_2, k_3, k_4, k_5, k_6, k_7, k_8, kg_0, kg_1, kg_2, kg_3, kg_4, kg_5, kg_6, kg_7, kg_8, kl⟩ := blk9 BX.out
  go_wp2_with fail
  refine (H1.out _ _ HRX.out).mono ?_
  rintro e w1 ⟨rfl, hg1⟩
  clear k_0 k_1 k_2 k_3 k_4 k_5 k_6 k_7 k_8 kg_0 kg_1 kg_2 kg_3 kg_4 kg_5 kg_6 kg_7 kg_8 kl
  have BX := Lib.hid (hg1.blk BX.out)
  have BY := Lib.hid (hg1.blk BY.out)
  have HRX := Lib.hid (HRX.out.gr hg1)
  have HRY := Lib.hid (HRY.out.gr hg1)
  have HG := Lib.hid (HG.out.trans hg1)
  clear hg1
  go_wp2_with fail
  refine (H2.out _).mono ?_
  rintro e w2 ⟨v2, rfl, hr2, hg2⟩
  obtain ⟨q2, c2, rfl⟩ := hr2.form
  have BX := Lib.hid (heap_alloc_mono (hg2.blk BX.out) (.cells #[.int .i64 xb.id, .int .i64 xb.epoch, .int .i64 xb.prio, .string xb.anchor, .int .i64 xb.sw, .int .i64 xb.sl, .int .i64 xb.bw, .int .i64 xb.bl, .slice q2 xb.l.length c2] 39))
  have BY := Lib.hid (heap_alloc_mono (hg2.blk BY.out) (.cells #[.int .i64 xb.id, .int .i64 xb.epoch, .int .i64 xb.prio, .string xb.anchor, .int .i64 xb.sw, .int .i64 xb.sl, .int .i64 xb.bw, .int .i64 xb.bl, .slice q2 xb.l.length c2] 39))
  have HRX := Lib.hid ((HRX.out.gr hg2).gr ((Gr.refl _).alloc (.cells #[.int .i64 xb.id, .int .i64 xb.epoch, .int .i64 xb.prio, .string xb.anchor, .int .i64 xb.sw, .int .i64 xb.sl, .int .i64 xb.bw, .int .i64 xb.bl, .slice q2 xb.l.length c2] 39)))
  have HRY := Lib.hid ((HRY.out.gr hg2).gr ((Gr.refl _).alloc (.cells #[.int .i64 xb.id, .int .i64 xb.epoch, .int .i64 xb.prio, .string xb.anchor, .int .i64 xb.sw, .int .i64 xb.sl, .int .i64 xb.bw, .int .i64 xb.bl, .slice q2 xb.l.length c2] 39)))
  have HG := Lib.hid ((HG.out.trans hg2).alloc (.cells #[.int .i64 xb.id, .int .i64 xb.epoch, .int .i64 xb.prio, .string xb.anchor, .int .i64 xb.sw, .int .i64 xb.sl, .int .i64 xb.bw, .int .i64 xb.bl, .slice q2 xb.l.length c2] 39))
  clear hg2
  have HRA := Lib.hid (hr2.gr ((Gr.refl _).alloc (.cells #[.int .i64 xb.id, .int .i64 xb.epoch, .int .i64 xb.prio, .string xb.anchor, .int .i64 xb.sw, .int .i64 xb.sl, .int .i64 xb.bw, .int .i64 xb.bl, .slice q2 xb.l.length c2] 39)))
  have BA := Lib.hid (heap_alloc_new w2 (.cells #[.int .i64 xb.id, .int .i64 xb.epoch, .int .i64 xb.prio, .string xb.anchor, .int .i64 xb.sw, .int .i64 xb.sl, .int .i64 xb.bw, .int .i64 xb.bl, .slice q2 xb.l.length c2] 39))
  clear hr2
  obtain ⟨k_0, k_1, k_2, k_3, k_4, k_5, k_6, k_7, k_8, k_9, kg_0, kg_1, kg_2, kg_3, kg_4, kg_5, kg_6, kg_7, kg_8, kg_9, kl⟩ := blk10 BY.out
  go_wp2_with fail
  refine (H3.out _ _ HRY.out).mono ?_
  rintro e w3 ⟨rfl, hg3⟩
  clear k_0 k_1 k_2 k_3 k_4 k_5 k_6 k_7 k_8 k_9 kg_0 kg_1 kg_2 kg_3 kg_4 kg_5 kg_6 kg_7 kg_8 kg_9 kl
  have BX := Lib.hid (hg3.blk BX.out)
  have BY := Lib.hid (hg3.blk BY.out)
  have HRX := Lib.hid (HRX.out.gr hg3)
  have HRY := Lib.hid (HRY.out.gr hg3)
  have HRA := Lib.hid (HRA.out.gr hg3)
  have BA := Lib.hid (hg3.blk BA.out)
  have HG := Lib.hid (HG.out.trans hg3)
  clear hg3
  go_wp2_with fail
  refine (H4.out _).mono ?_
  rintro e w4 ⟨v4, rfl, hr4, hg4⟩
  obtain ⟨q4, c4, rfl⟩ := hr4.form
  have BX := Lib.hid (heap_alloc_mono (hg4.blk BX.out) (.cells #[.int .i64 y.id, .int .i64 y.epoch, .int .i64 y.status, .int .i64 y.prio, .string y.anchor, .int .i64 y.sw, .int .i64 y.sl, .int .i64 y.bw, .int .i64 y.bl, .slice q4 y.l.length c4] 47))
  have BY := Lib.hid (heap_alloc_mono (hg4.blk BY.out) (.cells #[.int .i64 y.id, .int .i64 y.epoch, .int .i64 y.status, .int .i64 y.prio, .string y.anchor, .int .i64 y.sw, .int .i64 y.sl, .int .i64 y.bw, .int .i64 y.bl, .slice q4 y.l.length c4] 47))
  have HRX := Lib.hid ((HRX.out.gr hg4).gr ((Gr.refl _).alloc (.cells #[.int .i64 y.id, .int .i64 y.epoch, .int .i64 y.status, .int .i64 y.prio, .string y.anchor, .int .i64 y.sw, .int .i64 y.sl, .int .i64 y.bw, .int .i64 y.bl, .slice q4 y.l.length c4] 47)))
  have HRY := Lib.hid ((HRY.out.gr hg4).gr ((Gr.refl _).alloc (.cells #[.int .i64 y.id, .int .i64 y.epoch, .int .i64 y.status, .int .i64 y.prio, .string y.anchor, .int .i64 y.sw, .int .i64 y.sl, .int .i64 y.bw, .int .i64 y.bl, .slice q4 y.l.length c4] 47)))
  have HRA := Lib.hid ((HRA.out.gr hg4).gr ((Gr.refl _).alloc (.cells #[.int .i64 y.id, .int .i64 y.epoch, .int .i64 y.status, .int .i64 y.prio, .string y.anchor, .int .i64 y.sw, .int .i64 y.sl, .int .i64 y.bw, .int .i64 y.bl, .slice q4 y.l.length c4] 47)))
  have BA := Lib.hid (heap_alloc_mono (hg4.blk BA.out) (.cells #[.int .i64 y.id, .int .i64 y.epoch, .int .i64 y.status, .int .i64 y.prio, .string y.anchor, .int .i64 y.sw, .int .i64 y.sl, .int .i64 y.bw, .int .i64 y.bl, .slice q4 y.l.length c4] 47))
  have HG := Lib.hid ((HG.out.trans hg4).alloc (.cells #[.int .i64 y.id, .int .i64 y.epoch, .int .i64 y.status, .int .i64 y.prio, .string y.anchor, .int .i64 y.sw, .int .i64 y.sl, .int .i64 y.bw, .int .i64 y.bl, .slice q4 y.l.length c4] 47))
  clear hg4
  have HRB := Lib.hid (hr4.gr ((Gr.refl _).alloc (.cells #[.int .i64 y.id, .int .i64 y.epoch, .int .i64 y.status, .int .i64 y.prio, .string y.anchor, .int .i64 y.sw, .int .i64 y.sl, .int .i64 y.bw, .int .i64 y.bl, .slice q4 y.l.length c4] 47)))
  have BB := Lib.hid (heap_alloc_new w4 (.cells #[.int .i64 y.id, .int .i64 y.epoch, .int .i64 y.status, .int .i64 y.prio, .string y.anchor, .int .i64 y.sw, .int .i64 y.sl, .int .i64 y.bw, .int .i64 y.bl, .slice q4 y.l.length c4] 47))
  clear hr4
  go_wp2_with fail
  refine (H5.out _).mono ?_
  rintro e w5 ⟨rfl, hg5⟩
  have BX := Lib.hid (hg5.blk BX.out)
  have BY := Lib.hid (hg5.blk BY.out)
  have HRX := Lib.hid (HRX.out.gr hg5)
  have HRY := Lib.hid (HRY.out.gr hg5)
  have HRA := Lib.hid (HRA.out.gr hg5)
  have BA := Lib.hid (hg5.blk BA.out)
  have HRB := Lib.hid (HRB.out.gr hg5)
  have BB := Lib.hid (hg5.blk BB.out)
  have HG := Lib.hid (HG.out.trans hg5)
  clear hg5
  go_wp2_with fail
  refine (H6.out _).mono ?_
  rintro e w6 ⟨rfl, hg6⟩
  have BX := Lib.hid (hg6.blk BX.out)
  have BY := Lib.hid (hg6.blk BY.out)
  have HRX := Lib.hid (HRX.out.gr hg6)
  have HRY := Lib.hid (HRY.out.gr hg6)
  have HRA := Lib.hid (HRA.out.gr hg6)
  have BA := Lib.hid (hg6.blk BA.out)
  have HRB := Lib.hid (HRB.out.gr hg6)
  have BB := Lib.hid (hg6.blk BB.out)
  have HG := Lib.hid (HG.out.trans hg6)
  clear hg6
  obtain ⟨ka_0, ka_1, ka_2, ka_3, ka_4, ka_5, ka_6, ka_7, ka_8, kag_0, kag_1, kag_2, kag_3, kag_4, kag_5, kag_6, kag_7, kag_8, kal⟩ := blk9 BX.out
  obtain ⟨kb_0, kb_1, kb_2, kb_3, kb_4, kb_5, kb_6, kb_7, kb_8, kbg_0, kbg_1, kbg_2, kbg_3, kbg_4, kbg_5, kbg_6, kbg_7, kbg_8, kbl⟩ := blk9 BA.out
  obtain ⟨kc_0, kc_1, kc_2, kc_3, kc_4, kc_5, kc_6, kc_7, kc_8, kc_9, kcg_0, kcg_1, kcg_2, kcg_3, kcg_4, kcg_5, kcg_6, kcg_7, kcg_8, kcg_9, kcl⟩ := blk10 BY.out
  obtain ⟨kd_0, kd_1, kd_2, kd_3, kd_4, kd_5, kd_6, kd_7, kd_8, kd_9, kdg_0, kdg_1, kdg_2, kdg_3, kdg_4, kdg_5, kdg_6, kdg_7, kdg_8, kdg_9, kdl⟩ := blk10 BB.out
  go_wp2_with fail
  refine (HSR.out _ _ _ HRB.out HRY.out (RdR.len HRY.out)).mono ?_
  rintro e w8 ⟨rfl, hg8⟩
  clear ka_0 ka_1 ka_2 ka_3 ka_4 ka_5 ka_6 ka_7 ka_8 kag_0 kag_1 kag_2 kag_3 kag_4 kag_5 kag_6 kag_7 kag_8 kal kb_0 kb_1 kb_2 kb_3 kb_4 kb_5 kb_6 kb_7 kb_8 kbg_0 kbg_1 kbg_2 kbg_3 kbg_4 kbg_5 kbg_6 kbg_7 kbg_8 kbl kc_0 kc_1 kc_2 kc_3 kc_4 kc_5 kc_6 kc_7 kc_8 kc_9 kcg_0 kcg_1 kcg_2 kcg_3 kcg_4 kcg_5 kcg_6 kcg_7 kcg_8 kcg_9 kcl kd_0 kd_1 kd_2 kd_3 kd_4 kd_5 kd_6 kd_7 kd_8 kd_9 kdg_0 kdg_1 kdg_2 kdg_3 kdg_4 kdg_5 kdg_6 kdg_7 kdg_8 kdg_9 kdl
  have BX := Lib.hid (hg8.blk BX.out)
  have BY := Lib.hid (hg8.blk BY.out)
  have HRX := Lib.hid (HRX.out.gr hg8)
  have HRY := Lib.hid (HRY.out.gr hg8)
  have HRA := Lib.hid (HRA.out.gr hg8)
  have BA := Lib.hid (hg8.blk BA.out)
  have HRB := Lib.hid (HRB.out.gr hg8)
  have BB := Lib.hid (hg8.blk BB.out)
  have HG := Lib.hid (HG.out.trans hg8)
  clear hg8
  obtain ⟨ka_0, ka_1, ka_2, ka_3, ka_4, ka_5, ka_6, ka_7, ka_8, kag_0, kag_1, kag_2, kag_3, kag_4, kag_5, kag_6, kag_7, kag_8, kal⟩ := blk9 BX.out
  obtain ⟨kb_0, kb_1, kb_2, kb_3, kb_4, kb_5, kb_6, kb_7, kb_8, kbg_0, kbg_1, kbg_2, kbg_3, kbg_4, kbg_5, kbg_6, kbg_7, kbg_8, kbl⟩ := blk9 BA.out
  obtain ⟨kc_0, kc_1, kc_2, kc_3, kc_4, kc_5, kc_6, kc_7, kc_8, kc_9, kcg_0, kcg_1, kcg_2, kcg_3, kcg_4, kcg_5, kcg_6, kcg_7, kcg_8, kcg_9, kcl⟩ := blk10 BY.out
  obtain ⟨kd_0, kd_1, kd_2, kd_3, kd_4, kd_5, kd_6, kd_7, kd_8, kd_9, kdg_0, kdg_1, kdg_2, kdg_3, kdg_4, kdg_5, kdg_6, kdg_7, kdg_8, kdg_9, kdl⟩ := blk10 BB.out
  go_wp2_with fail
  refine (HAW.out _ (hsh.gr HG.out)).mono ?_
  rintro e w9 ⟨rfl, hg9⟩
  have hgF := HG.out.trans hg9
  go_wp2
  go_ret
  exact ⟨rfl, hgF⟩
set_option maxHeartbeats 8000000 in
theorem cellBack_001 {w : World} (x : Itt) (y : Rec) (value : ByteArray) {qx qy : Option Addr} {cx cy : Nat} (hx : RdC w (.slice qx x.l.length cx) x.l) (hy : RdW w (.slice qy y.l.length cy) y.l) (hlx : x.l.length ≤ 1048576) (hly : y.l.length ≤ 1048576) (hv : value.size ≤ 1048576) (hsh : Sh w)
    (ox : ittOk x = false) (oy : recOk y = false) (ov : okV value.data.toList true = true) :
    Calls Tryd.prog 9 #[.agg #[.int .i64 x.id, .int .i64 x.epoch, .int .i64 x.prio, .string x.anchor, .int .i64 x.sw, .int .i64 x.sl, .int .i64 x.bw, .int .i64 x.bl, .slice qx x.l.length cx], .agg #[.int .i64 y.id, .int .i64 y.epoch, .int .i64 y.status, .int .i64 y.prio, .string y.anchor, .int .i64 y.sw, .int .i64 y.sl, .int .i64 y.bw, .int .i64 y.bl, .slice qy y.l.length cy], .string value] w fun e w' => e = .returned (.bool true) ∧ Gr w w' := by
  have HAW := Lib.hid (fun (u : World) (hu : Sh u) => awake_any u hu)
  have hvl : value.data.toList.length = value.size := Array.length_toList
  have H1 := Lib.hid (fun (u : World) (v1 : Value) (h1 : RdC u v1 x.l) => cellIntent_any x h1 (by omega))
  have H2 := Lib.hid (fun u => takeIntent_any ⟨(ittT x).toArray⟩ (by rw [size_toArray]; have := ittT_len x; omega) u)
  have H3 := Lib.hid (fun (u : World) (v1 : Value) (h1 : RdW u v1 y.l) => cellRecord_any y h1 (by omega))
  have H4 := Lib.hid (fun u => takeRecord_any ⟨(recT y).toArray⟩ (by rw [size_toArray]; have := recT_len y; omega) u)
  have H5 := Lib.hid (fun u => cellVersion_any value true u)
  have H6 := Lib.hid (fun u => takeVersion_any ⟨(versionW value.data.toList true).toArray⟩ (by rw [size_toArray]; have := verW_len value.data.toList true; omega) u)
  have HSI := Lib.hid (fun (u : World) (v1 v2 : Value) (h1 : RdC u v1 x.l) (h2 : RdC u v2 x.l) (hl : x.l.length ≤ 9223372036854775807) => by have := refSame_any x x h1 h2 hl; rwa [eqItt_self] at this)
  have HSR := Lib.hid (fun (u : World) (v1 v2 : Value) (h1 : RdW u v1 y.l) (h2 : RdW u v2 y.l) (hl : y.l.length ≤ 9223372036854775807) => by have := refSameRecord_any y y h1 h2 hl; rwa [eqRec_self] at this)
  rw [toList_toArray] at H2 H4 H6
  rw [ox] at H1
  rw [oy] at H3
  rw [show ittT x = [] by unfold ittT; rw [ox]; rfl] at H1 H2
  generalize ittOut (takeIttR []) = o at H2
  obtain ⟨xb, eb⟩ := o
  rw [show recT y = [] by unfold recT; rw [oy]; rfl] at H3 H4
  generalize recOut (takeRecR []) = o at H4
  obtain ⟨yb, eyb⟩ := o
  rw [show takeVerR (versionW value.data.toList true) = (value.data.toList, true, 0) from takeVer_fwd ov] at H6
  rw [show versionE value.data.toList true = 0 by unfold versionE; rw [if_pos ov]] at H5
  rw [show (⟨((value.data.toList, true, (0 : Int)) : List UInt8 × Bool × Int).1.toArray⟩ : ByteArray) = value from bytes_back value] at H6
  generalize (⟨(versionW value.data.toList true).toArray⟩ : ByteArray) = vt at H5 H6
  clear ox oy ov
  have BX := Lib.hid (heap_alloc_mono (heap_alloc_new w (.cells #[.int .i64 x.id, .int .i64 x.epoch, .int .i64 x.prio, .string x.anchor, .int .i64 x.sw, .int .i64 x.sl, .int .i64 x.bw, .int .i64 x.bl, .slice qx x.l.length cx] 39)) (.cells #[.int .i64 y.id, .int .i64 y.epoch, .int .i64 y.status, .int .i64 y.prio, .string y.anchor, .int .i64 y.sw, .int .i64 y.sl, .int .i64 y.bw, .int .i64 y.bl, .slice qy y.l.length cy] 47))
  have BY : Hid (((w.alloc (.cells #[.int .i64 x.id, .int .i64 x.epoch, .int .i64 x.prio, .string x.anchor, .int .i64 x.sw, .int .i64 x.sl, .int .i64 x.bw, .int .i64 x.bl, .slice qx x.l.length cx] 39)).alloc (.cells #[.int .i64 y.id, .int .i64 y.epoch, .int .i64 y.status, .int .i64 y.prio, .string y.anchor, .int .i64 y.sw, .int .i64 y.sl, .int .i64 y.bw, .int .i64 y.bl, .slice qy y.l.length cy] 47)).heap[w.heap.size + 1]? = some (.cells #[.int .i64 y.id, .int .i64 y.epoch, .int .i64 y.status, .int .i64 y.prio, .string y.anchor, .int .i64 y.sw, .int .i64 y.sl, .int .i64 y.bw, .int .i64 y.bl, .slice qy y.l.length cy] 47)) := Lib.hid (heap_newn (by simp))
  have HG := Lib.hid (((Gr.refl w).alloc (.cells #[.int .i64 x.id, .int .i64 x.epoch, .int .i64 x.prio, .string x.anchor, .int .i64 x.sw, .int .i64 x.sl, .int .i64 x.bw, .int .i64 x.bl, .slice qx x.l.length cx] 39)).alloc (.cells #[.int .i64 y.id, .int .i64 y.epoch, .int .i64 y.status, .int .i64 y.prio, .string y.anchor, .int .i64 y.sw, .int .i64 y.sl, .int .i64 y.bw, .int .i64 y.bl, .slice qy y.l.length cy] 47))
  have HRX := Lib.hid (RdC.gr hx HG.out)
  have HRY := Lib.hid (RdW.gr hy HG.out)
  clear hx hy
  go_enter Tryd.func9, Tryd.ntmps9
  obtain ⟨k_0, k_1, k_2, k_3, k_4, k_5, k_6, k_7, k_8, kg_0, kg_1, kg_2, kg_3, kg_4, kg_5, kg_6, kg_7, kg_8, kl⟩ := blk9 BX.out
  go_wp2_with fail
  refine (H1.out _ _ HRX.out).mono ?_
  rintro e w1 ⟨rfl, hg1⟩
  clear k_0 k_1 k_2 k_3 k_4 k_5 k_6 k_7 k_8 kg_0 kg_1 kg_2 kg_3 kg_4 kg_5 kg_6 kg_7 kg_8 kl
  have BX := Lib.hid (hg1.blk BX.out)
  have BY := Lib.hid (hg1.blk BY.out)
  have HRX := Lib.hid (HRX.out.gr hg1)
  have HRY := Lib.hid (HRY.out.gr hg1)
  have HG := Lib.hid (HG.out.trans hg1)
  clear hg1
  go_wp2_with fail
  refine (H2.out _).mono ?_
  rintro e w2 ⟨v2, rfl, hr2, hg2⟩
  obtain ⟨q2, c2, rfl⟩ := hr2.form
  have BX := Lib.hid (heap_alloc_mono (hg2.blk BX.out) (.cells #[.int .i64 xb.id, .int .i64 xb.epoch, .int .i64 xb.prio, .string xb.anchor, .int .i64 xb.sw, .int .i64 xb.sl, .int .i64 xb.bw, .int .i64 xb.bl, .slice q2 xb.l.length c2] 39))
  have BY := Lib.hid (heap_alloc_mono (hg2.blk BY.out) (.cells #[.int .i64 xb.id, .int .i64 xb.epoch, .int .i64 xb.prio, .string xb.anchor, .int .i64 xb.sw, .int .i64 xb.sl, .int .i64 xb.bw, .int .i64 xb.bl, .slice q2 xb.l.length c2] 39))
  have HRX := Lib.hid ((HRX.out.gr hg2).gr ((Gr.refl _).alloc (.cells #[.int .i64 xb.id, .int .i64 xb.epoch, .int .i64 xb.prio, .string xb.anchor, .int .i64 xb.sw, .int .i64 xb.sl, .int .i64 xb.bw, .int .i64 xb.bl, .slice q2 xb.l.length c2] 39)))
  have HRY := Lib.hid ((HRY.out.gr hg2).gr ((Gr.refl _).alloc (.cells #[.int .i64 xb.id, .int .i64 xb.epoch, .int .i64 xb.prio, .string xb.anchor, .int .i64 xb.sw, .int .i64 xb.sl, .int .i64 xb.bw, .int .i64 xb.bl, .slice q2 xb.l.length c2] 39)))
  have HG := Lib.hid ((HG.out.trans hg2).alloc (.cells #[.int .i64 xb.id, .int .i64 xb.epoch, .int .i64 xb.prio, .string xb.anchor, .int .i64 xb.sw, .int .i64 xb.sl, .int .i64 xb.bw, .int .i64 xb.bl, .slice q2 xb.l.length c2] 39))
  clear hg2
  have HRA := Lib.hid (hr2.gr ((Gr.refl _).alloc (.cells #[.int .i64 xb.id, .int .i64 xb.epoch, .int .i64 xb.prio, .string xb.anchor, .int .i64 xb.sw, .int .i64 xb.sl, .int .i64 xb.bw, .int .i64 xb.bl, .slice q2 xb.l.length c2] 39)))
  have BA := Lib.hid (heap_alloc_new w2 (.cells #[.int .i64 xb.id, .int .i64 xb.epoch, .int .i64 xb.prio, .string xb.anchor, .int .i64 xb.sw, .int .i64 xb.sl, .int .i64 xb.bw, .int .i64 xb.bl, .slice q2 xb.l.length c2] 39))
  clear hr2
  obtain ⟨k_0, k_1, k_2, k_3, k_4, k_5, k_6, k_7, k_8, k_9, kg_0, kg_1, kg_2, kg_3, kg_4, kg_5, kg_6, kg_7, kg_8, kg_9, kl⟩ := blk10 BY.out
  go_wp2_with fail
  refine (H3.out _ _ HRY.out).mono ?_
  rintro e w3 ⟨rfl, hg3⟩
  clear k_0 k_1 k_2 k_3 k_4 k_5 k_6 k_7 k_8 k_9 kg_0 kg_1 kg_2 kg_3 kg_4 kg_5 kg_6 kg_7 kg_8 kg_9 kl
  have BX := Lib.hid (hg3.blk BX.out)
  have BY := Lib.hid (hg3.blk BY.out)
  have HRX := Lib.hid (HRX.out.gr hg3)
  have HRY := Lib.hid (HRY.out.gr hg3)
  have HRA := Lib.hid (HRA.out.gr hg3)
  have BA := Lib.hid (hg3.blk BA.out)
  have HG := Lib.hid (HG.out.trans hg3)
  clear hg3
  go_wp2_with fail
  refine (H4.out _).mono ?_
  rintro e w4 ⟨v4, rfl, hr4, hg4⟩
  obtain ⟨q4, c4, rfl⟩ := hr4.form
  have BX := Lib.hid (heap_alloc_mono (hg4.blk BX.out) (.cells #[.int .i64 yb.id, .int .i64 yb.epoch, .int .i64 yb.status, .int .i64 yb.prio, .string yb.anchor, .int .i64 yb.sw, .int .i64 yb.sl, .int .i64 yb.bw, .int .i64 yb.bl, .slice q4 yb.l.length c4] 47))
  have BY := Lib.hid (heap_alloc_mono (hg4.blk BY.out) (.cells #[.int .i64 yb.id, .int .i64 yb.epoch, .int .i64 yb.status, .int .i64 yb.prio, .string yb.anchor, .int .i64 yb.sw, .int .i64 yb.sl, .int .i64 yb.bw, .int .i64 yb.bl, .slice q4 yb.l.length c4] 47))
  have HRX := Lib.hid ((HRX.out.gr hg4).gr ((Gr.refl _).alloc (.cells #[.int .i64 yb.id, .int .i64 yb.epoch, .int .i64 yb.status, .int .i64 yb.prio, .string yb.anchor, .int .i64 yb.sw, .int .i64 yb.sl, .int .i64 yb.bw, .int .i64 yb.bl, .slice q4 yb.l.length c4] 47)))
  have HRY := Lib.hid ((HRY.out.gr hg4).gr ((Gr.refl _).alloc (.cells #[.int .i64 yb.id, .int .i64 yb.epoch, .int .i64 yb.status, .int .i64 yb.prio, .string yb.anchor, .int .i64 yb.sw, .int .i64 yb.sl, .int .i64 yb.bw, .int .i64 yb.bl, .slice q4 yb.l.length c4] 47)))
  have HRA := Lib.hid ((HRA.out.gr hg4).gr ((Gr.refl _).alloc (.cells #[.int .i64 yb.id, .int .i64 yb.epoch, .int .i64 yb.status, .int .i64 yb.prio, .string yb.anchor, .int .i64 yb.sw, .int .i64 yb.sl, .int .i64 yb.bw, .int .i64 yb.bl, .slice q4 yb.l.length c4] 47)))
  have BA := Lib.hid (heap_alloc_mono (hg4.blk BA.out) (.cells #[.int .i64 yb.id, .int .i64 yb.epoch, .int .i64 yb.status, .int .i64 yb.prio, .string yb.anchor, .int .i64 yb.sw, .int .i64 yb.sl, .int .i64 yb.bw, .int .i64 yb.bl, .slice q4 yb.l.length c4] 47))
  have HG := Lib.hid ((HG.out.trans hg4).alloc (.cells #[.int .i64 yb.id, .int .i64 yb.epoch, .int .i64 yb.status, .int .i64 yb.prio, .string yb.anchor, .int .i64 yb.sw, .int .i64 yb.sl, .int .i64 yb.bw, .int .i64 yb.bl, .slice q4 yb.l.length c4] 47))
  clear hg4
  have HRB := Lib.hid (hr4.gr ((Gr.refl _).alloc (.cells #[.int .i64 yb.id, .int .i64 yb.epoch, .int .i64 yb.status, .int .i64 yb.prio, .string yb.anchor, .int .i64 yb.sw, .int .i64 yb.sl, .int .i64 yb.bw, .int .i64 yb.bl, .slice q4 yb.l.length c4] 47)))
  have BB := Lib.hid (heap_alloc_new w4 (.cells #[.int .i64 yb.id, .int .i64 yb.epoch, .int .i64 yb.status, .int .i64 yb.prio, .string yb.anchor, .int .i64 yb.sw, .int .i64 yb.sl, .int .i64 yb.bw, .int .i64 yb.bl, .slice q4 yb.l.length c4] 47))
  clear hr4
  go_wp2_with fail
  refine (H5.out _).mono ?_
  rintro e w5 ⟨rfl, hg5⟩
  have BX := Lib.hid (hg5.blk BX.out)
  have BY := Lib.hid (hg5.blk BY.out)
  have HRX := Lib.hid (HRX.out.gr hg5)
  have HRY := Lib.hid (HRY.out.gr hg5)
  have HRA := Lib.hid (HRA.out.gr hg5)
  have BA := Lib.hid (hg5.blk BA.out)
  have HRB := Lib.hid (HRB.out.gr hg5)
  have BB := Lib.hid (hg5.blk BB.out)
  have HG := Lib.hid (HG.out.trans hg5)
  clear hg5
  go_wp2_with fail
  refine (H6.out _).mono ?_
  rintro e w6 ⟨rfl, hg6⟩
  have BX := Lib.hid (hg6.blk BX.out)
  have BY := Lib.hid (hg6.blk BY.out)
  have HRX := Lib.hid (HRX.out.gr hg6)
  have HRY := Lib.hid (HRY.out.gr hg6)
  have HRA := Lib.hid (HRA.out.gr hg6)
  have BA := Lib.hid (hg6.blk BA.out)
  have HRB := Lib.hid (HRB.out.gr hg6)
  have BB := Lib.hid (hg6.blk BB.out)
  have HG := Lib.hid (HG.out.trans hg6)
  clear hg6
  obtain ⟨ka_0, ka_1, ka_2, ka_3, ka_4, ka_5, ka_6, ka_7, ka_8, kag_0, kag_1, kag_2, kag_3, kag_4, kag_5, kag_6, kag_7, kag_8, kal⟩ := blk9 BX.out
  obtain ⟨kb_0, kb_1, kb_2, kb_3, kb_4, kb_5, kb_6, kb_7, kb_8, kbg_0, kbg_1, kbg_2, kbg_3, kbg_4, kbg_5, kbg_6, kbg_7, kbg_8, kbl⟩ := blk9 BA.out
  obtain ⟨kc_0, kc_1, kc_2, kc_3, kc_4, kc_5, kc_6, kc_7, kc_8, kc_9, kcg_0, kcg_1, kcg_2, kcg_3, kcg_4, kcg_5, kcg_6, kcg_7, kcg_8, kcg_9, kcl⟩ := blk10 BY.out
  obtain ⟨kd_0, kd_1, kd_2, kd_3, kd_4, kd_5, kd_6, kd_7, kd_8, kd_9, kdg_0, kdg_1, kdg_2, kdg_3, kdg_4, kdg_5, kdg_6, kdg_7, kdg_8, kdg_9, kdl⟩ := blk10 BB.out
  go_wp2_with fail
  refine (HAW.out _ (hsh.gr HG.out)).mono ?_
  rintro e w9 ⟨rfl, hg9⟩
  have hgF := HG.out.trans hg9
  go_wp2
  go_ret
  exact ⟨rfl, hgF⟩
set_option maxHeartbeats 8000000 in
theorem cellBack_000 {w : World} (x : Itt) (y : Rec) (value : ByteArray) {qx qy : Option Addr} {cx cy : Nat} (hx : RdC w (.slice qx x.l.length cx) x.l) (hy : RdW w (.slice qy y.l.length cy) y.l) (hlx : x.l.length ≤ 1048576) (hly : y.l.length ≤ 1048576) (hv : value.size ≤ 1048576) (hsh : Sh w)
    (ox : ittOk x = false) (oy : recOk y = false) (ov : okV value.data.toList true = false) :
    Calls Tryd.prog 9 #[.agg #[.int .i64 x.id, .int .i64 x.epoch, .int .i64 x.prio, .string x.anchor, .int .i64 x.sw, .int .i64 x.sl, .int .i64 x.bw, .int .i64 x.bl, .slice qx x.l.length cx], .agg #[.int .i64 y.id, .int .i64 y.epoch, .int .i64 y.status, .int .i64 y.prio, .string y.anchor, .int .i64 y.sw, .int .i64 y.sl, .int .i64 y.bw, .int .i64 y.bl, .slice qy y.l.length cy], .string value] w fun e w' => e = .returned (.bool true) ∧ Gr w w' := by
  have HAW := Lib.hid (fun (u : World) (hu : Sh u) => awake_any u hu)
  have hvl : value.data.toList.length = value.size := Array.length_toList
  have H1 := Lib.hid (fun (u : World) (v1 : Value) (h1 : RdC u v1 x.l) => cellIntent_any x h1 (by omega))
  have H2 := Lib.hid (fun u => takeIntent_any ⟨(ittT x).toArray⟩ (by rw [size_toArray]; have := ittT_len x; omega) u)
  have H3 := Lib.hid (fun (u : World) (v1 : Value) (h1 : RdW u v1 y.l) => cellRecord_any y h1 (by omega))
  have H4 := Lib.hid (fun u => takeRecord_any ⟨(recT y).toArray⟩ (by rw [size_toArray]; have := recT_len y; omega) u)
  have H5 := Lib.hid (fun u => cellVersion_any value true u)
  have H6 := Lib.hid (fun u => takeVersion_any ⟨(versionW value.data.toList true).toArray⟩ (by rw [size_toArray]; have := verW_len value.data.toList true; omega) u)
  have HSI := Lib.hid (fun (u : World) (v1 v2 : Value) (h1 : RdC u v1 x.l) (h2 : RdC u v2 x.l) (hl : x.l.length ≤ 9223372036854775807) => by have := refSame_any x x h1 h2 hl; rwa [eqItt_self] at this)
  have HSR := Lib.hid (fun (u : World) (v1 v2 : Value) (h1 : RdW u v1 y.l) (h2 : RdW u v2 y.l) (hl : y.l.length ≤ 9223372036854775807) => by have := refSameRecord_any y y h1 h2 hl; rwa [eqRec_self] at this)
  rw [toList_toArray] at H2 H4 H6
  rw [ox] at H1
  rw [oy] at H3
  rw [show ittT x = [] by unfold ittT; rw [ox]; rfl] at H1 H2
  generalize ittOut (takeIttR []) = o at H2
  obtain ⟨xb, eb⟩ := o
  rw [show recT y = [] by unfold recT; rw [oy]; rfl] at H3 H4
  generalize recOut (takeRecR []) = o at H4
  obtain ⟨yb, eyb⟩ := o
  have h64 : decide ((64 : Int) < (value.size : Int)) = true := by simp [okV] at ov; simp; omega
  rw [show versionE value.data.toList true = 2 by unfold versionE; rw [ov]; rfl] at H5
  generalize (⟨(versionW value.data.toList true).toArray⟩ : ByteArray) = vt at H5 H6
  generalize takeVerR (versionW value.data.toList true) = vv at H6
  clear ox oy ov
  have BX := Lib.hid (heap_alloc_mono (heap_alloc_new w (.cells #[.int .i64 x.id, .int .i64 x.epoch, .int .i64 x.prio, .string x.anchor, .int .i64 x.sw, .int .i64 x.sl, .int .i64 x.bw, .int .i64 x.bl, .slice qx x.l.length cx] 39)) (.cells #[.int .i64 y.id, .int .i64 y.epoch, .int .i64 y.status, .int .i64 y.prio, .string y.anchor, .int .i64 y.sw, .int .i64 y.sl, .int .i64 y.bw, .int .i64 y.bl, .slice qy y.l.length cy] 47))
  have BY : Hid (((w.alloc (.cells #[.int .i64 x.id, .int .i64 x.epoch, .int .i64 x.prio, .string x.anchor, .int .i64 x.sw, .int .i64 x.sl, .int .i64 x.bw, .int .i64 x.bl, .slice qx x.l.length cx] 39)).alloc (.cells #[.int .i64 y.id, .int .i64 y.epoch, .int .i64 y.status, .int .i64 y.prio, .string y.anchor, .int .i64 y.sw, .int .i64 y.sl, .int .i64 y.bw, .int .i64 y.bl, .slice qy y.l.length cy] 47)).heap[w.heap.size + 1]? = some (.cells #[.int .i64 y.id, .int .i64 y.epoch, .int .i64 y.status, .int .i64 y.prio, .string y.anchor, .int .i64 y.sw, .int .i64 y.sl, .int .i64 y.bw, .int .i64 y.bl, .slice qy y.l.length cy] 47)) := Lib.hid (heap_newn (by simp))
  have HG := Lib.hid (((Gr.refl w).alloc (.cells #[.int .i64 x.id, .int .i64 x.epoch, .int .i64 x.prio, .string x.anchor, .int .i64 x.sw, .int .i64 x.sl, .int .i64 x.bw, .int .i64 x.bl, .slice qx x.l.length cx] 39)).alloc (.cells #[.int .i64 y.id, .int .i64 y.epoch, .int .i64 y.status, .int .i64 y.prio, .string y.anchor, .int .i64 y.sw, .int .i64 y.sl, .int .i64 y.bw, .int .i64 y.bl, .slice qy y.l.length cy] 47))
  have HRX := Lib.hid (RdC.gr hx HG.out)
  have HRY := Lib.hid (RdW.gr hy HG.out)
  clear hx hy
  go_enter Tryd.func9, Tryd.ntmps9
  obtain ⟨k_0, k_1, k_2, k_3, k_4, k_5, k_6, k_7, k_8, kg_0, kg_1, kg_2, kg_3, kg_4, kg_5, kg_6, kg_7, kg_8, kl⟩ := blk9 BX.out
  go_wp2_with fail
  refine (H1.out _ _ HRX.out).mono ?_
  rintro e w1 ⟨rfl, hg1⟩
  clear k_0 k_1 k_2 k_3 k_4 k_5 k_6 k_7 k_8 kg_0 kg_1 kg_2 kg_3 kg_4 kg_5 kg_6 kg_7 kg_8 kl
  have BX := Lib.hid (hg1.blk BX.out)
  have BY := Lib.hid (hg1.blk BY.out)
  have HRX := Lib.hid (HRX.out.gr hg1)
  have HRY := Lib.hid (HRY.out.gr hg1)
  have HG := Lib.hid (HG.out.trans hg1)
  clear hg1
  go_wp2_with fail
  refine (H2.out _).mono ?_
  rintro e w2 ⟨v2, rfl, hr2, hg2⟩
  obtain ⟨q2, c2, rfl⟩ := hr2.form
  have BX := Lib.hid (heap_alloc_mono (hg2.blk BX.out) (.cells #[.int .i64 xb.id, .int .i64 xb.epoch, .int .i64 xb.prio, .string xb.anchor, .int .i64 xb.sw, .int .i64 xb.sl, .int .i64 xb.bw, .int .i64 xb.bl, .slice q2 xb.l.length c2] 39))
  have BY := Lib.hid (heap_alloc_mono (hg2.blk BY.out) (.cells #[.int .i64 xb.id, .int .i64 xb.epoch, .int .i64 xb.prio, .string xb.anchor, .int .i64 xb.sw, .int .i64 xb.sl, .int .i64 xb.bw, .int .i64 xb.bl, .slice q2 xb.l.length c2] 39))
  have HRX := Lib.hid ((HRX.out.gr hg2).gr ((Gr.refl _).alloc (.cells #[.int .i64 xb.id, .int .i64 xb.epoch, .int .i64 xb.prio, .string xb.anchor, .int .i64 xb.sw, .int .i64 xb.sl, .int .i64 xb.bw, .int .i64 xb.bl, .slice q2 xb.l.length c2] 39)))
  have HRY := Lib.hid ((HRY.out.gr hg2).gr ((Gr.refl _).alloc (.cells #[.int .i64 xb.id, .int .i64 xb.epoch, .int .i64 xb.prio, .string xb.anchor, .int .i64 xb.sw, .int .i64 xb.sl, .int .i64 xb.bw, .int .i64 xb.bl, .slice q2 xb.l.length c2] 39)))
  have HG := Lib.hid ((HG.out.trans hg2).alloc (.cells #[.int .i64 xb.id, .int .i64 xb.epoch, .int .i64 xb.prio, .string xb.anchor, .int .i64 xb.sw, .int .i64 xb.sl, .int .i64 xb.bw, .int .i64 xb.bl, .slice q2 xb.l.length c2] 39))
  clear hg2
  have HRA := Lib.hid (hr2.gr ((Gr.refl _).alloc (.cells #[.int .i64 xb.id, .int .i64 xb.epoch, .int .i64 xb.prio, .string xb.anchor, .int .i64 xb.sw, .int .i64 xb.sl, .int .i64 xb.bw, .int .i64 xb.bl, .slice q2 xb.l.length c2] 39)))
  have BA := Lib.hid (heap_alloc_new w2 (.cells #[.int .i64 xb.id, .int .i64 xb.epoch, .int .i64 xb.prio, .string xb.anchor, .int .i64 xb.sw, .int .i64 xb.sl, .int .i64 xb.bw, .int .i64 xb.bl, .slice q2 xb.l.length c2] 39))
  clear hr2
  obtain ⟨k_0, k_1, k_2, k_3, k_4, k_5, k_6, k_7, k_8, k_9, kg_0, kg_1, kg_2, kg_3, kg_4, kg_5, kg_6, kg_7, kg_8, kg_9, kl⟩ := blk10 BY.out
  go_wp2_with fail
  refine (H3.out _ _ HRY.out).mono ?_
  rintro e w3 ⟨rfl, hg3⟩
  clear k_0 k_1 k_2 k_3 k_4 k_5 k_6 k_7 k_8 k_9 kg_0 kg_1 kg_2 kg_3 kg_4 kg_5 kg_6 kg_7 kg_8 kg_9 kl
  have BX := Lib.hid (hg3.blk BX.out)
  have BY := Lib.hid (hg3.blk BY.out)
  have HRX := Lib.hid (HRX.out.gr hg3)
  have HRY := Lib.hid (HRY.out.gr hg3)
  have HRA := Lib.hid (HRA.out.gr hg3)
  have BA := Lib.hid (hg3.blk BA.out)
  have HG := Lib.hid (HG.out.trans hg3)
  clear hg3
  go_wp2_with fail
  refine (H4.out _).mono ?_
  rintro e w4 ⟨v4, rfl, hr4, hg4⟩
  obtain ⟨q4, c4, rfl⟩ := hr4.form
  have BX := Lib.hid (heap_alloc_mono (hg4.blk BX.out) (.cells #[.int .i64 yb.id, .int .i64 yb.epoch, .int .i64 yb.status, .int .i64 yb.prio, .string yb.anchor, .int .i64 yb.sw, .int .i64 yb.sl, .int .i64 yb.bw, .int .i64 yb.bl, .slice q4 yb.l.length c4] 47))
  have BY := Lib.hid (heap_alloc_mono (hg4.blk BY.out) (.cells #[.int .i64 yb.id, .int .i64 yb.epoch, .int .i64 yb.status, .int .i64 yb.prio, .string yb.anchor, .int .i64 yb.sw, .int .i64 yb.sl, .int .i64 yb.bw, .int .i64 yb.bl, .slice q4 yb.l.length c4] 47))
  have HRX := Lib.hid ((HRX.out.gr hg4).gr ((Gr.refl _).alloc (.cells #[.int .i64 yb.id, .int .i64 yb.epoch, .int .i64 yb.status, .int .i64 yb.prio, .string yb.anchor, .int .i64 yb.sw, .int .i64 yb.sl, .int .i64 yb.bw, .int .i64 yb.bl, .slice q4 yb.l.length c4] 47)))
  have HRY := Lib.hid ((HRY.out.gr hg4).gr ((Gr.refl _).alloc (.cells #[.int .i64 yb.id, .int .i64 yb.epoch, .int .i64 yb.status, .int .i64 yb.prio, .string yb.anchor, .int .i64 yb.sw, .int .i64 yb.sl, .int .i64 yb.bw, .int .i64 yb.bl, .slice q4 yb.l.length c4] 47)))
  have HRA := Lib.hid ((HRA.out.gr hg4).gr ((Gr.refl _).alloc (.cells #[.int .i64 yb.id, .int .i64 yb.epoch, .int .i64 yb.status, .int .i64 yb.prio, .string yb.anchor, .int .i64 yb.sw, .int .i64 yb.sl, .int .i64 yb.bw, .int .i64 yb.bl, .slice q4 yb.l.length c4] 47)))
  have BA := Lib.hid (heap_alloc_mono (hg4.blk BA.out) (.cells #[.int .i64 yb.id, .int .i64 yb.epoch, .int .i64 yb.status, .int .i64 yb.prio, .string yb.anchor, .int .i64 yb.sw, .int .i64 yb.sl, .int .i64 yb.bw, .int .i64 yb.bl, .slice q4 yb.l.length c4] 47))
  have HG := Lib.hid ((HG.out.trans hg4).alloc (.cells #[.int .i64 yb.id, .int .i64 yb.epoch, .int .i64 yb.status, .int .i64 yb.prio, .string yb.anchor, .int .i64 yb.sw, .int .i64 yb.sl, .int .i64 yb.bw, .int .i64 yb.bl, .slice q4 yb.l.length c4] 47))
  clear hg4
  have HRB := Lib.hid (hr4.gr ((Gr.refl _).alloc (.cells #[.int .i64 yb.id, .int .i64 yb.epoch, .int .i64 yb.status, .int .i64 yb.prio, .string yb.anchor, .int .i64 yb.sw, .int .i64 yb.sl, .int .i64 yb.bw, .int .i64 yb.bl, .slice q4 yb.l.length c4] 47)))
  have BB := Lib.hid (heap_alloc_new w4 (.cells #[.int .i64 yb.id, .int .i64 yb.epoch, .int .i64 yb.status, .int .i64 yb.prio, .string yb.anchor, .int .i64 yb.sw, .int .i64 yb.sl, .int .i64 yb.bw, .int .i64 yb.bl, .slice q4 yb.l.length c4] 47))
  clear hr4
  go_wp2_with fail
  refine (H5.out _).mono ?_
  rintro e w5 ⟨rfl, hg5⟩
  have BX := Lib.hid (hg5.blk BX.out)
  have BY := Lib.hid (hg5.blk BY.out)
  have HRX := Lib.hid (HRX.out.gr hg5)
  have HRY := Lib.hid (HRY.out.gr hg5)
  have HRA := Lib.hid (HRA.out.gr hg5)
  have BA := Lib.hid (hg5.blk BA.out)
  have HRB := Lib.hid (HRB.out.gr hg5)
  have BB := Lib.hid (hg5.blk BB.out)
  have HG := Lib.hid (HG.out.trans hg5)
  clear hg5
  go_wp2_with fail
  refine (H6.out _).mono ?_
  rintro e w6 ⟨rfl, hg6⟩
  have BX := Lib.hid (hg6.blk BX.out)
  have BY := Lib.hid (hg6.blk BY.out)
  have HRX := Lib.hid (HRX.out.gr hg6)
  have HRY := Lib.hid (HRY.out.gr hg6)
  have HRA := Lib.hid (HRA.out.gr hg6)
  have BA := Lib.hid (hg6.blk BA.out)
  have HRB := Lib.hid (HRB.out.gr hg6)
  have BB := Lib.hid (hg6.blk BB.out)
  have HG := Lib.hid (HG.out.trans hg6)
  clear hg6
  obtain ⟨ka_0, ka_1, ka_2, ka_3, ka_4, ka_5, ka_6, ka_7, ka_8, kag_0, kag_1, kag_2, kag_3, kag_4, kag_5, kag_6, kag_7, kag_8, kal⟩ := blk9 BX.out
  obtain ⟨kb_0, kb_1, kb_2, kb_3, kb_4, kb_5, kb_6, kb_7, kb_8, kbg_0, kbg_1, kbg_2, kbg_3, kbg_4, kbg_5, kbg_6, kbg_7, kbg_8, kbl⟩ := blk9 BA.out
  obtain ⟨kc_0, kc_1, kc_2, kc_3, kc_4, kc_5, kc_6, kc_7, kc_8, kc_9, kcg_0, kcg_1, kcg_2, kcg_3, kcg_4, kcg_5, kcg_6, kcg_7, kcg_8, kcg_9, kcl⟩ := blk10 BY.out
  obtain ⟨kd_0, kd_1, kd_2, kd_3, kd_4, kd_5, kd_6, kd_7, kd_8, kd_9, kdg_0, kdg_1, kdg_2, kdg_3, kdg_4, kdg_5, kdg_6, kdg_7, kdg_8, kdg_9, kdl⟩ := blk10 BB.out
  go_wp2_with fail
  refine (HAW.out _ (hsh.gr HG.out)).mono ?_
  rintro e w9 ⟨rfl, hg9⟩
  have hgF := HG.out.trans hg9
  go_wp2
  go_ret
  exact ⟨rfl, hgF⟩

theorem cellBack_walk {w : World} (x : Itt) (y : Rec) (value : ByteArray) {vx vy : Value} (hx : RdC w vx x.l) (hy : RdW w vy y.l) (hlx : x.l.length ≤ 1048576) (hly : y.l.length ≤ 1048576) (hv : value.size ≤ 1048576) (hsh : Sh w) :
    Calls Tryd.prog 9 #[.agg #[.int .i64 x.id, .int .i64 x.epoch, .int .i64 x.prio, .string x.anchor, .int .i64 x.sw, .int .i64 x.sl, .int .i64 x.bw, .int .i64 x.bl, vx], .agg #[.int .i64 y.id, .int .i64 y.epoch, .int .i64 y.status, .int .i64 y.prio, .string y.anchor, .int .i64 y.sw, .int .i64 y.sl, .int .i64 y.bw, .int .i64 y.bl, vy], .string value] w fun e w' => e = .returned (.bool true) ∧ Gr w w' := by
  obtain ⟨qx, cx, rfl⟩ := hx.form
  obtain ⟨qy, cy, rfl⟩ := hy.form
  cases ox : ittOk x <;> cases oy : recOk y <;> cases ov : okV value.data.toList true
  · exact cellBack_000 x y value hx hy hlx hly hv hsh ox oy ov
  · exact cellBack_001 x y value hx hy hlx hly hv hsh ox oy ov
  · exact cellBack_010 x y value hx hy hlx hly hv hsh ox oy ov
  · exact cellBack_011 x y value hx hy hlx hly hv hsh ox oy ov
  · exact cellBack_100 x y value hx hy hlx hly hv hsh ox oy ov
  · exact cellBack_101 x y value hx hy hlx hly hv hsh ox oy ov
  · exact cellBack_110 x y value hx hy hlx hly hv hsh ox oy ov
  · exact cellBack_111 x y value hx hy hlx hly hv hsh ox oy ov
end Go.Proofs.YtpnojkgdjkncbaaDoor
