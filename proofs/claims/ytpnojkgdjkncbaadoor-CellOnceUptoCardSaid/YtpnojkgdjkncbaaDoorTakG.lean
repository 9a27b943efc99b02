/- Layer 11: the statement on what texts say. -/
import Derived.Test.YtpnojkgdjkncbaaDoorTakF
import Derived.Test.YtpnojkgdjkncbaaDoorCelL
import Derived.Test.YtpnojkgdjkncbaaDoorCelV
import Derived.Test.YtpnojkgdjkncbaaDoorRecC
namespace Go.Proofs.YtpnojkgdjkncbaaDoor
open Go.RowKit
set_option maxRecDepth 100000
set_option linter.unusedVariables false
set_option linter.unusedSimpArgs false

theorem RdR.len {α : Type} {R : World → List Value → α → Prop} {k : Nat} {w : World} {v : Value} {l : List α} (h : RdR R k w v l) : l.length ≤ 9223372036854775807 := by
  rcases h with ⟨rfl, _⟩ | ⟨blk, off, cap, rfl, h0, h1, h2, _⟩
  · simp
  · unfold maxLen at h2; omega
set_option maxHeartbeats 8000000 in
theorem cellTakes_walk {w : World} (s : ByteArray) (hs : s.size ≤ 1048576) (hsh : Sh w) :
    Calls Tryd.prog 8 #[.string s] w fun e w' => e = .returned (.bool true) ∧ Gr w w' := by
  have HAW := Lib.hid (fun (u : World) (hu : Sh u) => awake_any u hu)
  have H1 := Lib.hid (fun u => takeNumber_any s (by omega) u)
  have H2 := Lib.hid (fun u => refTakeNumber_any s (by omega) u)
  have H3 := Lib.hid (fun u => takeStamp_any s (by omega) u)
  have H4 := Lib.hid (fun u => refTakeStamp_any s (by omega) u)
  have H5 := Lib.hid (fun u => takeVersion_any s (by omega) u)
  have H6 := Lib.hid (fun u => refTakeVersion_any s (by omega) u)
  have H7 := Lib.hid (fun u => takeIntent_any s (by omega) u)
  have H8 := Lib.hid (fun u => refTakeIntent_any s (by omega) u)
  have H9 := Lib.hid (fun u => takeRecord_any s (by omega) u)
  have H10 := Lib.hid (fun u => refTakeRecord_any s (by omega) u)
  generalize takeNumR s.data.toList = n at H1 H2
  generalize takeStampR s.data.toList stampCk = p at H3 H4
  generalize takeVerR s.data.toList = v at H5 H6
  generalize ittOut (takeIttR s.data.toList) = o at H7 H8
  generalize recOut (takeRecR s.data.toList) = z at H9 H10
  obtain ⟨x, ei⟩ := o
  obtain ⟨y, er⟩ := z
  have HSI := Lib.hid (fun (u : World) (v1 v2 : Value) (h1 : RdC u v1 x.l) (h2 : RdC u v2 x.l) (hl : x.l.length ≤ 9223372036854775807) => by have := refSame_any x x h1 h2 hl; rwa [eqItt_self] at this)
  have HSR := Lib.hid (fun (u : World) (v1 v2 : Value) (h1 : RdW u v1 y.l) (h2 : RdW u v2 y.l) (hl : y.l.length ≤ 9223372036854775807) => by have := refSameRecord_any y y h1 h2 hl; rwa [eqRec_self] at this)
  go_enter Tryd.func8, Tryd.ntmps8
  go_wp2_with fail
  refine (H1.out _).mono ?_
  rintro e w1 ⟨rfl, hg1⟩
  have HG : Hid (Gr w w1) := Lib.hid (by repeat (first | (with_reducible exact Gr.refl _) | (with_reducible assumption) | (with_reducible refine Gr.alloc ?_ _) | (with_reducible refine Gr.drew ?_) | (with_reducible refine Gr.drewN ?_ _) | (with_reducible refine Gr.trans ?_ (by assumption)) | (with_reducible refine Gr.setCell ?_ (by first | exact Nat.le_refl _ | omega | (simp; done) | (simp; omega)) _)))
  clear hg1 H1
  go_wp2_with fail
  refine (H2.out _).mono ?_
  rintro e w2 ⟨rfl, hg2⟩
  have HG := Lib.hid (HG.out.trans hg2)
  clear hg2 H2
  go_wp2_with fail
  refine (H3.out _).mono ?_
  rintro e w3 ⟨rfl, hg3⟩
  have HG := Lib.hid ((HG.out.trans hg3).alloc (.cells #[.int .i64 p.1, .int .i64 p.2.1] 23))
  have BA := Lib.hid (heap_alloc_new w3 (.cells #[.int .i64 p.1, .int .i64 p.2.1] 23))
  clear hg3 H3
  go_wp2_with fail
  refine (H4.out _).mono ?_
  rintro e w4 ⟨rfl, hg4⟩
  have BA := Lib.hid (heap_alloc_mono (hg4.blk BA.out) (.cells #[.int .i64 p.1, .int .i64 p.2.1] 23))
  have HG := Lib.hid ((HG.out.trans hg4).alloc (.cells #[.int .i64 p.1, .int .i64 p.2.1] 23))
  have BB := Lib.hid (heap_alloc_new w4 (.cells #[.int .i64 p.1, .int .i64 p.2.1] 23))
  clear hg4 H4
  go_wp2_with fail
  refine (H5.out _).mono ?_
  rintro e w5 ⟨rfl, hg5⟩
  have BA := Lib.hid (hg5.blk BA.out)
  have BB := Lib.hid (hg5.blk BB.out)
  have HG := Lib.hid (HG.out.trans hg5)
  clear hg5 H5
  go_wp2_with fail
  refine (H6.out _).mono ?_
  rintro e w6 ⟨rfl, hg6⟩
  have BA := Lib.hid (hg6.blk BA.out)
  have BB := Lib.hid (hg6.blk BB.out)
  have HG := Lib.hid (HG.out.trans hg6)
  clear hg6 H6
  go_wp2_with fail
  refine (H7.out _).mono ?_
  rintro e w7 ⟨v7, rfl, hr7, hg7⟩
  obtain ⟨q7, c7, rfl⟩ := hr7.form
  have BA := Lib.hid (heap_alloc_mono (hg7.blk BA.out) (.cells #[.int .i64 x.id, .int .i64 x.epoch, .int .i64 x.prio, .string x.anchor, .int .i64 x.sw, .int .i64 x.sl, .int .i64 x.bw, .int .i64 x.bl, .slice q7 x.l.length c7] 39))
  have BB := Lib.hid (heap_alloc_mono (hg7.blk BB.out) (.cells #[.int .i64 x.id, .int .i64 x.epoch, .int .i64 x.prio, .string x.anchor, .int .i64 x.sw, .int .i64 x.sl, .int .i64 x.bw, .int .i64 x.bl, .slice q7 x.l.length c7] 39))
  have HG := Lib.hid ((HG.out.trans hg7).alloc (.cells #[.int .i64 x.id, .int .i64 x.epoch, .int .i64 x.prio, .string x.anchor, .int .i64 x.sw, .int .i64 x.sl, .int .i64 x.bw, .int .i64 x.bl, .slice q7 x.l.length c7] 39))
  have HR7 := Lib.hid (hr7.gr ((Gr.refl _).alloc (.cells #[.int .i64 x.id, .int .i64 x.epoch, .int .i64 x.prio, .string x.anchor, .int .i64 x.sw, .int .i64 x.sl, .int .i64 x.bw, .int .i64 x.bl, .slice q7 x.l.length c7] 39)))
  have BC := Lib.hid (heap_alloc_new w7 (.cells #[.int .i64 x.id, .int .i64 x.epoch, .int .i64 x.prio, .string x.anchor, .int .i64 x.sw, .int .i64 x.sl, .int .i64 x.bw, .int .i64 x.bl, .slice q7 x.l.length c7] 39))
  clear hg7 hr7 H7
  go_wp2_with fail
  refine (H8.out _).mono ?_
  rintro e w8 ⟨v8, rfl, hr8, hg8⟩
  obtain ⟨q8, c8, rfl⟩ := hr8.form
  have BA := Lib.hid (heap_alloc_mono (hg8.blk BA.out) (.cells #[.int .i64 x.id, .int .i64 x.epoch, .int .i64 x.prio, .string x.anchor, .int .i64 x.sw, .int .i64 x.sl, .int .i64 x.bw, .int .i64 x.bl, .slice q8 x.l.length c8] 39))
  have BB := Lib.hid (heap_alloc_mono (hg8.blk BB.out) (.cells #[.int .i64 x.id, .int .i64 x.epoch, .int .i64 x.prio, .string x.anchor, .int .i64 x.sw, .int .i64 x.sl, .int .i64 x.bw, .int .i64 x.bl, .slice q8 x.l.length c8] 39))
  have HR7 := Lib.hid ((HR7.out.gr hg8).gr ((Gr.refl _).alloc (.cells #[.int .i64 x.id, .int .i64 x.epoch, .int .i64 x.prio, .string x.anchor, .int .i64 x.sw, .int .i64 x.sl, .int .i64 x.bw, .int .i64 x.bl, .slice q8 x.l.length c8] 39)))
  have BC := Lib.hid (heap_alloc_mono (hg8.blk BC.out) (.cells #[.int .i64 x.id, .int .i64 x.epoch, .int .i64 x.prio, .string x.anchor, .int .i64 x.sw, .int .i64 x.sl, .int .i64 x.bw, .int .i64 x.bl, .slice q8 x.l.length c8] 39))
  have HG := Lib.hid ((HG.out.trans hg8).alloc (.cells #[.int .i64 x.id, .int .i64 x.epoch, .int .i64 x.prio, .string x.anchor, .int .i64 x.sw, .int .i64 x.sl, .int .i64 x.bw, .int .i64 x.bl, .slice q8 x.l.length c8] 39))
  have HR8 := Lib.hid (hr8.gr ((Gr.refl _).alloc (.cells #[.int .i64 x.id, .int .i64 x.epoch, .int .i64 x.prio, .string x.anchor, .int .i64 x.sw, .int .i64 x.sl, .int .i64 x.bw, .int .i64 x.bl, .slice q8 x.l.length c8] 39)))
  have BD := Lib.hid (heap_alloc_new w8 (.cells #[.int .i64 x.id, .int .i64 x.epoch, .int .i64 x.prio, .string x.anchor, .int .i64 x.sw, .int .i64 x.sl, .int .i64 x.bw, .int .i64 x.bl, .slice q8 x.l.length c8] 39))
  clear hg8 hr8 H8
  go_wp2_with fail
  refine (H9.out _).mono ?_
  rintro e w9 ⟨v9, rfl, hr9, hg9⟩
  obtain ⟨q9, c9, rfl⟩ := hr9.form
  have BA := Lib.hid (heap_alloc_mono (hg9.blk BA.out) (.cells #[.int .i64 y.id, .int .i64 y.epoch, .int .i64 y.status, .int .i64 y.prio, .string y.anchor, .int .i64 y.sw, .int .i64 y.sl, .int .i64 y.bw, .int .i64 y.bl, .slice q9 y.l.length c9] 47))
  have BB := Lib.hid (heap_alloc_mono (hg9.blk BB.out) (.cells #[.int .i64 y.id, .int .i64 y.epoch, .int .i64 y.status, .int .i64 y.prio, .string y.anchor, .int .i64 y.sw, .int .i64 y.sl, .int .i64 y.bw, .int .i64 y.bl, .slice q9 y.l.length c9] 47))
  have HR7 := Lib.hid ((HR7.out.gr hg9).gr ((Gr.refl _).alloc (.cells #[.int .i64 y.id, .int .i64 y.epoch, .int .i64 y.status, .int .i64 y.prio, .string y.anchor, .int .i64 y.sw, .int .i64 y.sl, .int .i64 y.bw, .int .i64 y.bl, .slice q9 y.l.length c9] 47)))
  have BC := Lib.hid (heap_alloc_mono (hg9.blk BC.out) (.cells #[.int .i64 y.id, .int .i64 y.epoch, .int .i64 y.status, .int .i64 y.prio, .string y.anchor, .int .i64 y.sw, .int .i64 y.sl, .int .i64 y.bw, .int .i64 y.bl, .slice q9 y.l.length c9] 47))
  have HR8 := Lib.hid ((HR8.out.gr hg9).gr ((Gr.refl _).alloc (.cells #[.int .i64 y.id, .int .i64 y.epoch, .int .i64 y.status, .int .i64 y.prio, .string y.anchor, .int .i64 y.sw, .int .i64 y.sl, .int .i64 y.bw, .int .i64 y.bl, .slice q9 y.l.length c9] 47)))
  have BD := Lib.hid (heap_alloc_mono (hg9.blk BD.out) (.cells #[.int .i64 y.id, .int .i64 y.epoch, .int .i64 y.status, .int .i64 y.prio, .string y.anchor, .int .i64 y.sw, .int .i64 y.sl, .int .i64 y.bw, .int .i64 y.bl, .slice q9 y.l.length c9] 47))
  have HG := Lib.hid ((HG.out.trans hg9).alloc (.cells #[.int .i64 y.id, .int .i64 y.epoch, .int .i64 y.status, .int .i64 y.prio, .string y.anchor, .int .i64 y.sw, .int .i64 y.sl, .int .i64 y.bw, .int .i64 y.bl, .slice q9 y.l.length c9] 47))
  have HR9 := Lib.hid (hr9.gr ((Gr.refl _).alloc (.cells #[.int .i64 y.id, .int .i64 y.epoch, .int .i64 y.status, .int .i64 y.prio, .string y.anchor, .int .i64 y.sw, .int .i64 y.sl, .int .i64 y.bw, .int .i64 y.bl, .slice q9 y.l.length c9] 47)))
  have BE := Lib.hid (heap_alloc_new w9 (.cells #[.int .i64 y.id, .int .i64 y.epoch, .int .i64 y.status, .int .i64 y.prio, .string y.anchor, .int .i64 y.sw, .int .i64 y.sl, .int .i64 y.bw, .int .i64 y.bl, .slice q9 y.l.length c9] 47))
  clear hg9 hr9 H9
  go_wp2_with fail
  refine (H10.out _).mono ?_
  rintro e w10 ⟨v10, rfl, hr10, hg10⟩
  obtain ⟨q10, c10, rfl⟩ := hr10.form
  have BA := Lib.hid (heap_alloc_mono (hg10.blk BA.out) (.cells #[.int .i64 y.id, .int .i64 y.epoch, .int .i64 y.status, .int .i64 y.prio, .string y.anchor, .int .i64 y.sw, .int .i64 y.sl, .int .i64 y.bw, .int .i64 y.bl, .slice q10 y.l.length c10] 47))
  have BB := Lib.hid (heap_alloc_mono (hg10.blk BB.out) (.cells #[.int .i64 y.id, .int .i64 y.epoch, .int .i64 y.status, .int .i64 y.prio, .string y.anchor, .int .i64 y.sw, .int .i64 y.sl, .int .i64 y.bw, .int .i64 y.bl, .slice q10 y.l.length c10] 47))
  have HR7 := Lib.hid ((HR7.out.gr hg10).gr ((Gr.refl _).alloc (.cells #[.int .i64 y.id, .int .i64 y.epoch, .int .i64 y.status, .int .i64 y.prio, .string y.anchor, .int .i64 y.sw, .int .i64 y.sl, .int .i64 y.bw, .int .i64 y.bl, .slice q10 y.l.length c10] 47)))
  have BC := Lib.hid (heap_alloc_mono (hg10.blk BC.out) (.cells #[.int .i64 y.id, .int .i64 y.epoch, .int .i64 y.status, .int .i64 y.prio, .string y.anchor, .int .i64 y.sw, .int .i64 y.sl, .int .i64 y.bw, .int .i64 y.bl, .slice q10 y.l.length c10] 47))
  have HR8 := Lib.hid ((HR8.out.gr hg10).gr ((Gr.refl _).alloc (.cells #[.int .i64 y.id, .int .i64 y.epoch, .int .i64 y.status, .int .i64 y.prio, .string y.anchor, .int .i64 y.sw, .int .i64 y.sl, .int .i64 y.bw, .int .i64 y.bl, .slice q10 y.l.length c10] 47)))
  have BD := Lib.hid (heap_alloc_mono (hg10.blk BD.out) (.cells #[.int .i64 y.id, .int .i64 y.epoch, .int .i64 y.status, .int .i64 y.prio, .string y.anchor, .int .i64 y.sw, .int .i64 y.sl, .int .i64 y.bw, .int .i64 y.bl, .slice q10 y.l.length c10] 47))
  have HR9 := Lib.hid ((HR9.out.gr hg10).gr ((Gr.refl _).alloc (.cells #[.int .i64 y.id, .int .i64 y.epoch, .int .i64 y.status, .int .i64 y.prio, .string y.anchor, .int .i64 y.sw, .int .i64 y.sl, .int .i64 y.bw, .int .i64 y.bl, .slice q10 y.l.length c10] 47)))
  have BE := Lib.hid (heap_alloc_mono (hg10.blk BE.out) (.cells #[.int .i64 y.id, .int .i64 y.epoch, .int .i64 y.status, .int .i64 y.prio, .string y.anchor, .int .i64 y.sw, .int .i64 y.sl, .int .i64 y.bw, .int .i64 y.bl, .slice q10 y.l.length c10] 47))
  have HG := Lib.hid ((HG.out.trans hg10).alloc (.cells #[.int .i64 y.id, .int .i64 y.epoch, .int .i64 y.status, .int .i64 y.prio, .string y.anchor, .int .i64 y.sw, .int .i64 y.sl, .int .i64 y.bw, .int .i64 y.bl, .slice q10 y.l.length c10] 47))
  have HR10 := Lib.hid (hr10.gr ((Gr.refl _).alloc (.cells #[.int .i64 y.id, .int .i64 y.epoch, .int .i64 y.status, .int .i64 y.prio, .string y.anchor, .int .i64 y.sw, .int .i64 y.sl, .int .i64 y.bw, .int .i64 y.bl, .slice q10 y.l.length c10] 47)))
  have BF := Lib.hid (heap_alloc_new w10 (.cells #[.int .i64 y.id, .int .i64 y.epoch, .int .i64 y.status, .int .i64 y.prio, .string y.anchor, .int .i64 y.sw, .int .i64 y.sl, .int .i64 y.bw, .int .i64 y.bl, .slice q10 y.l.length c10] 47))
  clear hg10 hr10 H10
  obtain ⟨ka_0, ka_1, kag_0, kag_1, kal⟩ := blk2 BA.out
  obtain ⟨kb_0, kb_1, kbg_0, kbg_1, kbl⟩ := blk2 BB.out
  obtain ⟨kc_0, kc_1, kc_2, kc_3, kc_4, kc_5, kc_6, kc_7, kc_8, kcg_0, kcg_1, kcg_2, kcg_3, kcg_4, kcg_5, kcg_6, kcg_7, kcg_8, kcl⟩ := blk9 BC.out
  obtain ⟨kd_0, kd_1, kd_2, kd_3, kd_4, kd_5, kd_6, kd_7, kd_8, kdg_0, kdg_1, kdg_2, kdg_3, kdg_4, kdg_5, kdg_6, kdg_7, kdg_8, kdl⟩ := blk9 BD.out
  obtain ⟨ke_0, ke_1, ke_2, ke_3, ke_4, ke_5, ke_6, ke_7, ke_8, ke_9, keg_0, keg_1, keg_2, keg_3, keg_4, keg_5, keg_6, keg_7, keg_8, keg_9, kel⟩ := blk10 BE.out
  obtain ⟨kf_0, kf_1, kf_2, kf_3, kf_4, kf_5, kf_6, kf_7, kf_8, kf_9, kfg_0, kfg_1, kfg_2, kfg_3, kfg_4, kfg_5, kfg_6, kfg_7, kfg_8, kfg_9, kfl⟩ := blk10 BF.out
  clear kag_0 kag_1 kbg_0 kbg_1 kcg_0 kcg_1 kcg_2 kcg_3 kcg_4 kcg_5 kcg_6 kcg_7 kcg_8 kdg_0 kdg_1 kdg_2 kdg_3 kdg_4 kdg_5 kdg_6 kdg_7 kdg_8 keg_0 keg_1 keg_2 keg_3 keg_4 keg_5 keg_6 keg_7 keg_8 keg_9 kfg_0 kfg_1 kfg_2 kfg_3 kfg_4 kfg_5 kfg_6 kfg_7 kfg_8 kfg_9
  have hxl : x.l.length ≤ 9223372036854775807 := RdR.len HR7.out
  have hyl : y.l.length ≤ 9223372036854775807 := RdR.len HR9.out
  go_wp2_with fail
  refine (HSI.out _ _ _ HR7.out HR8.out hxl).mono ?_
  rintro e w11 ⟨rfl, hg11⟩
  have BA := Lib.hid (hg11.blk BA.out)
  have BB := Lib.hid (hg11.blk BB.out)
  have HR7 := Lib.hid (HR7.out.gr hg11)
  have BC := Lib.hid (hg11.blk BC.out)
  have HR8 := Lib.hid (HR8.out.gr hg11)
  have BD := Lib.hid (hg11.blk BD.out)
  have HR9 := Lib.hid (HR9.out.gr hg11)
  have BE := Lib.hid (hg11.blk BE.out)
  have HR10 := Lib.hid (HR10.out.gr hg11)
  have BF := Lib.hid (hg11.blk BF.out)
  have HG := Lib.hid (HG.out.trans hg11)
  obtain ⟨ke_0, ke_1, ke_2, ke_3, ke_4, ke_5, ke_6, ke_7, ke_8, ke_9, keg_0, keg_1, keg_2, keg_3, keg_4, keg_5, keg_6, keg_7, keg_8, keg_9, kel⟩ := blk10 BE.out
  obtain ⟨kf_0, kf_1, kf_2, kf_3, kf_4, kf_5, kf_6, kf_7, kf_8, kf_9, kfg_0, kfg_1, kfg_2, kfg_3, kfg_4, kfg_5, kfg_6, kfg_7, kfg_8, kfg_9, kfl⟩ := blk10 BF.out
  clear hg11 HSI keg_0 keg_1 keg_2 keg_3 keg_4 keg_5 keg_6 keg_7 keg_8 keg_9 kfg_0 kfg_1 kfg_2 kfg_3 kfg_4 kfg_5 kfg_6 kfg_7 kfg_8 kfg_9
  go_wp2_with fail
  refine (HSR.out _ _ _ HR9.out HR10.out hyl).mono ?_
  rintro e w12 ⟨rfl, hg12⟩
  have HG := Lib.hid (HG.out.trans hg12)
  clear hg12
  go_wp2_with fail
  refine (HAW.out _ (hsh.gr HG.out)).mono ?_
  rintro e w13 ⟨rfl, hg13⟩
  have hgF := HG.out.trans hg13
  go_wp2
  go_ret
  exact ⟨rfl, hgF⟩
end Go.Proofs.YtpnojkgdjkncbaaDoor
