/- Layer 11: the statement that what can be read is written so. -/
import Derived.Test.YtpnojkgdjkncbaaDoorTakQ
namespace Go.Proofs.YtpnojkgdjkncbaaDoor
open Go.RowKit
set_option maxRecDepth 100000
set_option linter.unusedVariables false
set_option linter.unusedSimpArgs false

theorem toArray_of {l : List UInt8} {t : ByteArray} (h : l = t.data.toList) : (⟨l.toArray⟩ : ByteArray) = t := by subst h; exact bytes_back t
theorem once_itt {t : ByteArray} {x : Itt} (h : takeIttR t.data.toList = some x) : ittOk x = true ∧ (⟨(ittT x).toArray⟩ : ByteArray) = t := by
  obtain ⟨h1, h2⟩ := takeItt_bwd h
  exact ⟨h1, toArray_of (by unfold ittT; rw [if_pos h1, h2])⟩
theorem once_rec {t : ByteArray} {x : Rec} (h : takeRecR t.data.toList = some x) : recOk x = true ∧ (⟨(recT x).toArray⟩ : ByteArray) = t := by
  obtain ⟨h1, h2⟩ := takeRec_bwd h
  exact ⟨h1, toArray_of (by rw [recT_eq, if_pos h1, h2])⟩
theorem once_ver {t : ByteArray} {a : List UInt8} {is : Bool} (h : takeVerR t.data.toList = (a, is, 0)) : versionE a is = 0 ∧ (⟨(versionW a is).toArray⟩ : ByteArray) = t := by
  obtain ⟨h1, h2⟩ := takeVer_bwd h
  exact ⟨by unfold versionE; rw [if_pos h1], toArray_of h2⟩
theorem once_stamp {t : ByteArray} {a b : Nat} (h : takeStampR t.data.toList stampCk = (a, b, 0)) : stampE a b = 0 ∧ (⟨(if stampE a b = 0 then stampW (a, b) else []).toArray⟩ : ByteArray) = t := by
  obtain ⟨h1, h2⟩ := takeStamp_bwd h
  have h3 : stampE a b = 0 := by
    unfold stampCk at h1
    unfold stampE
    split at h1
    · rename_i hm; rw [if_pos hm]
    · cases h1
  exact ⟨h3, toArray_of (by rw [if_pos h3, h2])⟩
theorem ver_cases (l : List UInt8) : (∃ a is, takeVerR l = (a, is, 0)) ∨ takeVerR l = ([], false, 4) := by
  unfold takeVerR
  split
  · exact .inl ⟨_, _, rfl⟩
  · exact .inr rfl
theorem stamp_cases (l : List UInt8) (ck : Int → Int → Int) : (∃ a b, takeStampR l ck = (a, b, 0)) ∨ takeStampR l ck = (0, 0, 4) := by
  unfold takeStampR
  split
  · exact .inl ⟨_, _, rfl⟩
  · exact .inr rfl

set_option maxHeartbeats 32000000 in
theorem cellOnce_walk {w : World} (t : ByteArray) (ht : t.size ≤ 1048576) (hsh : Sh w) :
    Calls Tryd.prog 10 #[.string t] w fun e w' => e = .returned (.bool true) ∧ Gr w w' := by
  have HAW := Lib.hid (fun (u : World) (hu : Sh u) => awake_any u hu)
  have H1 := Lib.hid (fun u => takeIntent_any t (by omega) u)
  have H2 := Lib.hid (fun u => takeRecord_any t (by omega) u)
  have H3 := Lib.hid (fun u => takeVersion_any t (by omega) u)
  have H4 := Lib.hid (fun u => takeStamp_any t (by omega) u)
  have O1 := Lib.hid (fun x (h : takeIttR t.data.toList = some x) => once_itt h)
  have O2 := Lib.hid (fun x (h : takeRecR t.data.toList = some x) => once_rec h)
  have O3 := Lib.hid (fun a is (h : takeVerR t.data.toList = (a, is, 0)) => once_ver h)
  have O4 := Lib.hid (fun a b (h : takeStampR t.data.toList stampCk = (a, b, 0)) => once_stamp h)
  have C3 := Lib.hid (ver_cases t.data.toList)
  have C4 := Lib.hid (stamp_cases t.data.toList stampCk)
  generalize takeIttR t.data.toList = o1 at H1 O1
  generalize takeRecR t.data.toList = o2 at H2 O2
  generalize takeVerR t.data.toList = o3 at H3 O3 C3
  generalize takeStampR t.data.toList stampCk = o4 at H4 O4 C4
  have HG := Lib.hid (Gr.refl w)
  go_enter Tryd.func10, Tryd.ntmps10
  go_wp2_with fail
  rcases o1 with _ | x
  · refine (H1.out _).mono ?_
    rintro e w1 ⟨v1, rfl, hr1, hg1⟩
    obtain ⟨q1, c1, rfl⟩ := hr1.form
    have HG := Lib.hid (HG.out.trans hg1)
    clear hg1 hr1 H1 O1
    go_wp2_with fail
    replace HG := Lib.hid (HG.out.alloc (.cells #[.int .i64 0, .int .i64 0, .int .i64 0, .string ⟨#[]⟩, .int .i64 0, .int .i64 0, .int .i64 0, .int .i64 0, .slice q1 0 c1] 39))
    rcases o2 with _ | y
    · refine (H2.out _).mono ?_
      rintro e w3 ⟨v3, rfl, hr3, hg3⟩
      obtain ⟨q3, c3, rfl⟩ := hr3.form
      have HG := Lib.hid (HG.out.trans hg3)
      clear hg3 hr3 H2 O2
      go_wp2_with fail
      replace HG := Lib.hid (HG.out.alloc (.cells #[.int .i64 0, .int .i64 0, .int .i64 0, .int .i64 0, .string ⟨#[]⟩, .int .i64 0, .int .i64 0, .int .i64 0, .int .i64 0, .slice q3 0 c3] 47))
      rcases C3.out with ⟨a, is, ho3⟩ | ho3
      · obtain ⟨ev, tv⟩ := O3.out a is ho3
        have HB := Lib.hid (fun (u : World) => by have := cellVersion_any ⟨a.toArray⟩ is u; rw [toList_toArray, ev, tv] at this; exact this)
        rw [ho3] at H3
        clear ho3 ev tv O3 C3
        refine (H3.out _).mono ?_
        rintro e w5 ⟨rfl, hg5⟩
        replace HG := Lib.hid (HG.out.trans hg5)
        clear hg5 H3
        go_wp2_with fail
        refine (HB.out _).mono ?_
        rintro e w6 ⟨rfl, hg6⟩
        replace HG := Lib.hid (HG.out.trans hg6)
        clear hg6 HB
        go_wp2_with fail
        rcases C4.out with ⟨a, b, ho4⟩ | ho4
        · obtain ⟨ev, tv⟩ := O4.out a b ho4
          have HB := Lib.hid (fun (u : World) => by have := cellStamp_any a b u; rw [tv, ev] at this; exact this)
          rw [ho4] at H4
          clear ho4 ev tv O4 C4
          refine (H4.out _).mono ?_
          rintro e w7 ⟨rfl, hg7⟩
          obtain ⟨k_0, k_1, g_0, g_1, l_0⟩ := blk2 (heap_alloc_new w7 (.cells #[.int .i64 a, .int .i64 b] 23))
          replace HG := Lib.hid ((HG.out.trans hg7).alloc (.cells #[.int .i64 a, .int .i64 b] 23))
          clear hg7 H4
          go_wp2_with fail
          refine (HB.out _).mono ?_
          rintro e w8 ⟨rfl, hg8⟩
          replace HG := Lib.hid (HG.out.trans hg8)
          clear hg8 HB k_0 k_1 g_0 g_1 l_0
          go_wp2_with fail
          refine (HAW.out _ (hsh.gr HG.out)).mono ?_
          rintro e w9 ⟨rfl, hg9⟩
          have hgF := HG.out.trans hg9
          go_wp2
          go_ret
          exact ⟨rfl, hgF⟩
        · rw [ho4] at H4
          clear ho4 O4 C4
          refine (H4.out _).mono ?_
          rintro e w7 ⟨rfl, hg7⟩
          replace HG := Lib.hid ((HG.out.trans hg7).alloc (.cells #[.int .i64 0, .int .i64 0] 23))
          clear hg7 H4
          go_wp2_with fail
          refine (HAW.out _ (hsh.gr HG.out)).mono ?_
          rintro e w9 ⟨rfl, hg9⟩
          have hgF := HG.out.trans hg9
          go_wp2
          go_ret
          exact ⟨rfl, hgF⟩
      · rw [ho3] at H3
        clear ho3 O3 C3
        refine (H3.out _).mono ?_
        rintro e w5 ⟨rfl, hg5⟩
        replace HG := Lib.hid (HG.out.trans hg5)
        clear hg5 H3
        go_wp2_with fail
        rcases C4.out with ⟨a, b, ho4⟩ | ho4
        · obtain ⟨ev, tv⟩ := O4.out a b ho4
          have HB := Lib.hid (fun (u : World) => by have := cellStamp_any a b u; rw [tv, ev] at this; exact this)
          rw [ho4] at H4
          clear ho4 ev tv O4 C4
          refine (H4.out _).mono ?_
          rintro e w7 ⟨rfl, hg7⟩
          obtain ⟨k_0, k_1, g_0, g_1, l_0⟩ := blk2 (heap_alloc_new w7 (.cells #[.int .i64 a, .int .i64 b] 23))
          replace HG := Lib.hid ((HG.out.trans hg7).alloc (.cells #[.int .i64 a, .int .i64 b] 23))
          clear hg7 H4
          go_wp2_with fail
          refine (HB.out _).mono ?_
          rintro e w8 ⟨rfl, hg8⟩
          replace HG := Lib.hid (HG.out.trans hg8)
          clear hg8 HB k_0 k_1 g_0 g_1 l_0
          go_wp2_with fail
          refine (HAW.out _ (hsh.gr HG.out)).mono ?_
          rintro e w9 ⟨rfl, hg9⟩
          have hgF := HG.out.trans hg9
          go_wp2
          go_ret
          exact ⟨rfl, hgF⟩
        · rw [ho4] at H4
          clear ho4 O4 C4
          refine (H4.out _).mono ?_
          rintro e w7 ⟨rfl, hg7⟩
          replace HG := Lib.hid ((HG.out.trans hg7).alloc (.cells #[.int .i64 0, .int .i64 0] 23))
          clear hg7 H4
          go_wp2_with fail
          refine (HAW.out _ (hsh.gr HG.out)).mono ?_
          rintro e w9 ⟨rfl, hg9⟩
          have hgF := HG.out.trans hg9
          go_wp2
          go_ret
          exact ⟨rfl, hgF⟩
    · obtain ⟨ok1, eq1⟩ := O2.out y rfl
      have HB := Lib.hid (fun (u : World) (v1 : Value) (h1 : RdW u v1 y.l) => by have := cellRecord_any y h1 (by have := rec32 ok1; omega); rw [ok1, eq1] at this; exact this)
      clear ok1 eq1 O2
      refine (H2.out _).mono ?_
      rintro e w3 ⟨v3, rfl, hr3, hg3⟩
      obtain ⟨q3, c3, rfl⟩ := hr3.form
      have HR3 := Lib.hid (hr3.gr ((Gr.refl _).alloc (.cells #[.int .i64 y.id, .int .i64 y.epoch, .int .i64 y.status, .int .i64 y.prio, .string y.anchor, .int .i64 y.sw, .int .i64 y.sl, .int .i64 y.bw, .int .i64 y.bl, .slice q3 y.l.length c3] 47)))
      obtain ⟨k_0, k_1, k_2, k_3, k_4, k_5, k_6, k_7, k_8, k_9, kg_0, kg_1, kg_2, kg_3, kg_4, kg_5, kg_6, kg_7, kg_8, kg_9, kl⟩ := blk10 (heap_alloc_new w3 (.cells #[.int .i64 y.id, .int .i64 y.epoch, .int .i64 y.status, .int .i64 y.prio, .string y.anchor, .int .i64 y.sw, .int .i64 y.sl, .int .i64 y.bw, .int .i64 y.bl, .slice q3 y.l.length c3] 47))
      replace HG := Lib.hid ((HG.out.trans hg3).alloc (.cells #[.int .i64 y.id, .int .i64 y.epoch, .int .i64 y.status, .int .i64 y.prio, .string y.anchor, .int .i64 y.sw, .int .i64 y.sl, .int .i64 y.bw, .int .i64 y.bl, .slice q3 y.l.length c3] 47))
      clear hg3 hr3 H2
      go_wp2_with fail
      refine (HB.out _ _ HR3.out).mono ?_
      rintro e w4 ⟨rfl, hg4⟩
      replace HG := Lib.hid (HG.out.trans hg4)
      clear hg4 HB HR3 k_0 k_1 k_2 k_3 k_4 k_5 k_6 k_7 k_8 k_9 kg_0 kg_1 kg_2 kg_3 kg_4 kg_5 kg_6 kg_7 kg_8 kg_9 kl
      go_wp2_with fail
      rcases C3.out with ⟨a, is, ho3⟩ | ho3
      · obtain ⟨ev, tv⟩ := O3.out a is ho3
        have HB := Lib.hid (fun (u : World) => by have := cellVersion_any ⟨a.toArray⟩ is u; rw [toList_toArray, ev, tv] at this; exact this)
        rw [ho3] at H3
        clear ho3 ev tv O3 C3
        refine (H3.out _).mono ?_
        rintro e w5 ⟨rfl, hg5⟩
        replace HG := Lib.hid (HG.out.trans hg5)
        clear hg5 H3
        go_wp2_with fail
        refine (HB.out _).mono ?_
        rintro e w6 ⟨rfl, hg6⟩
        replace HG := Lib.hid (HG.out.trans hg6)
        clear hg6 HB
        go_wp2_with fail
        rcases C4.out with ⟨a, b, ho4⟩ | ho4
        · obtain ⟨ev, tv⟩ := O4.out a b ho4
          have HB := Lib.hid (fun (u : World) => by have := cellStamp_any a b u; rw [tv, ev] at this; exact this)
          rw [ho4] at H4
          clear ho4 ev tv O4 C4
          refine (H4.out _).mono ?_
          rintro e w7 ⟨rfl, hg7⟩
          obtain ⟨k_0, k_1, g_0, g_1, l_0⟩ := blk2 (heap_alloc_new w7 (.cells #[.int .i64 a, .int .i64 b] 23))
          replace HG := Lib.hid ((HG.out.trans hg7).alloc (.cells #[.int .i64 a, .int .i64 b] 23))
          clear hg7 H4
          go_wp2_with fail
          refine (HB.out _).mono ?_
          rintro e w8 ⟨rfl, hg8⟩
          replace HG := Lib.hid (HG.out.trans hg8)
          clear hg8 HB k_0 k_1 g_0 g_1 l_0
          go_wp2_with fail
          refine (HAW.out _ (hsh.gr HG.out)).mono ?_
          rintro e w9 ⟨rfl, hg9⟩
          have hgF := HG.out.trans hg9
          go_wp2
          go_ret
          exact ⟨rfl, hgF⟩
        · rw [ho4] at H4
          clear ho4 O4 C4
          refine (H4.out _).mono ?_
          rintro e w7 ⟨rfl, hg7⟩
          replace HG := Lib.hid ((HG.out.trans hg7).alloc (.cells #[.int .i64 0, .int .i64 0] 23))
          clear hg7 H4
          go_wp2_with fail
          refine (HAW.out _ (hsh.gr HG.out)).mono ?_
          rintro e w9 ⟨rfl, hg9⟩
          have hgF := HG.out.trans hg9
          go_wp2
          go_ret
          exact ⟨rfl, hgF⟩
      · rw [ho3] at H3
        clear ho3 O3 C3
        refine (H3.out _).mono ?_
        rintro e w5 ⟨rfl, hg5⟩
        replace HG := Lib.hid (HG.out.trans hg5)
        clear hg5 H3
        go_wp2_with fail
        rcases C4.out with ⟨a, b, ho4⟩ | ho4
        · obtain ⟨ev, tv⟩ := O4.out a b ho4
          have HB := Lib.hid (fun (u : World) => by have := cellStamp_any a b u; rw [tv, ev] at this; exact this)
          rw [ho4] at H4
          clear ho4 ev tv O4 C4
          refine (H4.out _).mono ?_
          rintro e w7 ⟨rfl, hg7⟩
          obtain ⟨k_0, k_1, g_0, g_1, l_0⟩ := blk2 (heap_alloc_new w7 (.cells #[.int .i64 a, .int .i64 b] 23))
          replace HG := Lib.hid ((HG.out.trans hg7).alloc (.cells #[.int .i64 a, .int .i64 b] 23))
          clear hg7 H4
          go_wp2_with fail
          refine (HB.out _).mono ?_
          rintro e w8 ⟨rfl, hg8⟩
          replace HG := Lib.hid (HG.out.trans hg8)
          clear hg8 HB k_0 k_1 g_0 g_1 l_0
          go_wp2_with fail
          refine (HAW.out _ (hsh.gr HG.out)).mono ?_
          rintro e w9 ⟨rfl, hg9⟩
          have hgF := HG.out.trans hg9
          go_wp2
          go_ret
          exact ⟨rfl, hgF⟩
        · rw [ho4] at H4
          clear ho4 O4 C4
          refine (H4.out _).mono ?_
          rintro e w7 ⟨rfl, hg7⟩
          replace HG := Lib.hid ((HG.out.trans hg7).alloc (.cells #[.int .i64 0, .int .i64 0] 23))
          clear hg7 H4
          go_wp2_with fail
          refine (HAW.out _ (hsh.gr HG.out)).mono ?_
          rintro e w9 ⟨rfl, hg9⟩
          have hgF := HG.out.trans hg9
          go_wp2
          go_ret
          exact ⟨rfl, hgF⟩
  · obtain ⟨ok1, eq1⟩ := O1.out x rfl
    have HB := Lib.hid (fun (u : World) (v1 : Value) (h1 : RdC u v1 x.l) => by have := cellIntent_any x h1 (by have := itt16 ok1; omega); rw [ok1, eq1] at this; exact this)
    clear ok1 eq1 O1
    refine (H1.out _).mono ?_
    rintro e w1 ⟨v1, rfl, hr1, hg1⟩
    obtain ⟨q1, c1, rfl⟩ := hr1.form
    have HR1 := Lib.hid (hr1.gr ((Gr.refl _).alloc (.cells #[.int .i64 x.id, .int .i64 x.epoch, .int .i64 x.prio, .string x.anchor, .int .i64 x.sw, .int .i64 x.sl, .int .i64 x.bw, .int .i64 x.bl, .slice q1 x.l.length c1] 39)))
    obtain ⟨k_0, k_1, k_2, k_3, k_4, k_5, k_6, k_7, k_8, kg_0, kg_1, kg_2, kg_3, kg_4, kg_5, kg_6, kg_7, kg_8, kl⟩ := blk9 (heap_alloc_new w1 (.cells #[.int .i64 x.id, .int .i64 x.epoch, .int .i64 x.prio, .string x.anchor, .int .i64 x.sw, .int .i64 x.sl, .int .i64 x.bw, .int .i64 x.bl, .slice q1 x.l.length c1] 39))
    replace HG := Lib.hid ((HG.out.trans hg1).alloc (.cells #[.int .i64 x.id, .int .i64 x.epoch, .int .i64 x.prio, .string x.anchor, .int .i64 x.sw, .int .i64 x.sl, .int .i64 x.bw, .int .i64 x.bl, .slice q1 x.l.length c1] 39))
    clear hg1 hr1 H1
    go_wp2_with fail
    refine (HB.out _ _ HR1.out).mono ?_
    rintro e w2 ⟨rfl, hg2⟩
    replace HG := Lib.hid (HG.out.trans hg2)
    clear hg2 HB HR1 k_0 k_1 k_2 k_3 k_4 k_5 k_6 k_7 k_8 kg_0 kg_1 kg_2 kg_3 kg_4 kg_5 kg_6 kg_7 kg_8 kl
    go_wp2_with fail
    rcases o2 with _ | y
    · refine (H2.out _).mono ?_
      rintro e w3 ⟨v3, rfl, hr3, hg3⟩
      obtain ⟨q3, c3, rfl⟩ := hr3.form
      have HG := Lib.hid (HG.out.trans hg3)
      clear hg3 hr3 H2 O2
      go_wp2_with fail
      replace HG := Lib.hid (HG.out.alloc (.cells #[.int .i64 0, .int .i64 0, .int .i64 0, .int .i64 0, .string ⟨#[]⟩, .int .i64 0, .int .i64 0, .int .i64 0, .int .i64 0, .slice q3 0 c3] 47))
      rcases C3.out with ⟨a, is, ho3⟩ | ho3
      · obtain ⟨ev, tv⟩ := O3.out a is ho3
        have HB := Lib.hid (fun (u : World) => by have := cellVersion_any ⟨a.toArray⟩ is u; rw [toList_toArray, ev, tv] at this; exact this)
        rw [ho3] at H3
        clear ho3 ev tv O3 C3
        refine (H3.out _).mono ?_
        rintro e w5 ⟨rfl, hg5⟩
        replace HG := Lib.hid (HG.out.trans hg5)
        clear hg5 H3
        go_wp2_with fail
        refine (HB.out _).mono ?_
        rintro e w6 ⟨rfl, hg6⟩
        replace HG := Lib.hid (HG.out.trans hg6)
        clear hg6 HB
        go_wp2_with fail
        rcases C4.out with ⟨a, b, ho4⟩ | ho4
        · obtain ⟨ev, tv⟩ := O4.out a b ho4
          have HB := Lib.hid (fun (u : World) => by have := cellStamp_any a b u; rw [tv, ev] at this; exact this)
          rw [ho4] at H4
          clear ho4 ev tv O4 C4
          refine (H4.out _).mono ?_
          rintro e w7 ⟨rfl, hg7⟩
          obtain ⟨k_0, k_1, g_0, g_1, l_0⟩ := blk2 (heap_alloc_new w7 (.cells #[.int .i64 a, .int .i64 b] 23))
          replace HG := Lib.hid ((HG.out.trans hg7).alloc (.cells #[.int .i64 a, .int .i64 b] 23))
          clear hg7 H4
          go_wp2_with fail
          refine (HB.out _).mono ?_
          rintro e w8 ⟨rfl, hg8⟩
          replace HG := Lib.hid (HG.out.trans hg8)
          clear hg8 HB k_0 k_1 g_0 g_1 l_0
          go_wp2_with fail
          refine (HAW.out _ (hsh.gr HG.out)).mono ?_
          rintro e w9 ⟨rfl, hg9⟩
          have hgF := HG.out.trans hg9
          go_wp2
          go_ret
          exact ⟨rfl, hgF⟩
        · rw [ho4] at H4
          clear ho4 O4 C4
          refine (H4.out _).mono ?_
          rintro e w7 ⟨rfl, hg7⟩
          replace HG := Lib.hid ((HG.out.trans hg7).alloc (.cells #[.int .i64 0, .int .i64 0] 23))
          clear hg7 H4
          go_wp2_with fail
          refine (HAW.out _ (hsh.gr HG.out)).mono ?_
          rintro e w9 ⟨rfl, hg9⟩
          have hgF := HG.out.trans hg9
          go_wp2
          go_ret
          exact ⟨rfl, hgF⟩
      · rw [ho3] at H3
        clear ho3 O3 C3
        refine (H3.out _).mono ?_
        rintro e w5 ⟨rfl, hg5⟩
        replace HG := Lib.hid (HG.out.trans hg5)
        clear hg5 H3
        go_wp2_with fail
        rcases C4.out with ⟨a, b, ho4⟩ | ho4
        · obtain ⟨ev, tv⟩ := O4.out a b ho4
          have HB := Lib.hid (fun (u : World) => by have := cellStamp_any a b u; rw [tv, ev] at this; exact this)
          rw [ho4] at H4
          clear ho4 ev tv O4 C4
          refine (H4.out _).mono ?_
          rintro e w7 ⟨rfl, hg7⟩
          obtain ⟨k_0, k_1, g_0, g_1, l_0⟩ := blk2 (heap_alloc_new w7 (.cells #[.int .i64 a, .int .i64 b] 23))
          replace HG := Lib.hid ((HG.out.trans hg7).alloc (.cells #[.int .i64 a, .int .i64 b] 23))
          clear hg7 H4
          go_wp2_with fail
          refine (HB.out _).mono ?_
          rintro e w8 ⟨rfl, hg8⟩
          replace HG := Lib.hid (HG.out.trans hg8)
          clear hg8 HB k_0 k_1 g_0 g_1 l_0
          go_wp2_with fail
          refine (HAW.out _ (hsh.gr HG.out)).mono ?_
          rintro e w9 ⟨rfl, hg9⟩
          have hgF := HG.out.trans hg9
          go_wp2
          go_ret
          exact ⟨rfl, hgF⟩
        · rw [ho4] at H4
          clear ho4 O4 C4
          refine (H4.out _).mono ?_
          rintro e w7 ⟨rfl, hg7⟩
          replace HG := Lib.hid ((HG.out.trans hg7).alloc (.cells #[.int .i64 0, .int .i64 0] 23))
          clear hg7 H4
          go_wp2_with fail
          refine (HAW.out _ (hsh.gr HG.out)).mono ?_
          rintro e w9 ⟨rfl, hg9⟩
          have hgF := HG.out.trans hg9
          go_wp2
          go_ret
          exact ⟨rfl, hgF⟩
    · obtain ⟨ok1, eq1⟩ := O2.out y rfl
      have HB := Lib.hid (fun (u : World) (v1 : Value) (h1 : RdW u v1 y.l) => by have := cellRecord_any y h1 (by have := rec32 ok1; omega); rw [ok1, eq1] at this; exact this)
      clear ok1 eq1 O2
      refine (H2.out _).mono ?_
      rintro e w3 ⟨v3, rfl, hr3, hg3⟩
      obtain ⟨q3, c3, rfl⟩ := hr3.form
      have HR3 := Lib.hid (hr3.gr ((Gr.refl _).alloc (.cells #[.int .i64 y.id, .int .i64 y.epoch, .int .i64 y.status, .int .i64 y.prio, .string y.anchor, .int .i64 y.sw, .int .i64 y.sl, .int .i64 y.bw, .int .i64 y.bl, .slice q3 y.l.length c3] 47)))
      obtain ⟨k_0, k_1, k_2, k_3, k_4, k_5, k_6, k_7, k_8, k_9, kg_0, kg_1, kg_2, kg_3, kg_4, kg_5, kg_6, kg_7, kg_8, kg_9, kl⟩ := blk10 (heap_alloc_new w3 (.cells #[.int .i64 y.id, .int .i64 y.epoch, .int .i64 y.status, .int .i64 y.prio, .string y.anchor, .int .i64 y.sw, .int .i64 y.sl, .int .i64 y.bw, .int .i64 y.bl, .slice q3 y.l.length c3] 47))
      replace HG := Lib.hid ((HG.out.trans hg3).alloc (.cells #[.int .i64 y.id, .int .i64 y.epoch, .int .i64 y.status, .int .i64 y.prio, .string y.anchor, .int .i64 y.sw, .int .i64 y.sl, .int .i64 y.bw, .int .i64 y.bl, .slice q3 y.l.length c3] 47))
      clear hg3 hr3 H2
      go_wp2_with fail
      refine (HB.out _ _ HR3.out).mono ?_
      rintro e w4 ⟨rfl, hg4⟩
      replace HG := Lib.hid (HG.out.trans hg4)
      clear hg4 HB HR3 k_0 k_1 k_2 k_3 k_4 k_5 k_6 k_7 k_8 k_9 kg_0 kg_1 kg_2 kg_3 kg_4 kg_5 kg_6 kg_7 kg_8 kg_9 kl
      go_wp2_with fail
      rcases C3.out with ⟨a, is, ho3⟩ | ho3
      · obtain ⟨ev, tv⟩ := O3.out a is ho3
        have HB := Lib.hid (fun (u : World) => by have := cellVersion_any ⟨a.toArray⟩ is u; rw [toList_toArray, ev, tv] at this; exact this)
        rw [ho3] at H3
        clear ho3 ev tv O3 C3
        refine (H3.out _).mono ?_
        rintro e w5 ⟨rfl, hg5⟩
        replace HG := Lib.hid (HG.out.trans hg5)
        clear hg5 H3
        go_wp2_with fail
        refine (HB.out _).mono ?_
        rintro e w6 ⟨rfl, hg6⟩
        replace HG := Lib.hid (HG.out.trans hg6)
        clear hg6 HB
        go_wp2_with fail
        rcases C4.out with ⟨a, b, ho4⟩ | ho4
        · obtain ⟨ev, tv⟩ := O4.out a b ho4
          have HB := Lib.hid (fun (u : World) => by have := cellStamp_any a b u; rw [tv, ev] at this; exact this)
          rw [ho4] at H4
          clear ho4 ev tv O4 C4
          refine (H4.out _).mono ?_
          rintro e w7 ⟨rfl, hg7⟩
          obtain ⟨k_0, k_1, g_0, g_1, l_0⟩ := blk2 (heap_alloc_new w7 (.cells #[.int .i64 a, .int .i64 b] 23))
          replace HG := Lib.hid ((HG.out.trans hg7).alloc (.cells #[.int .i64 a, .int .i64 b] 23))
          clear hg7 H4
          go_wp2_with fail
          refine (HB.out _).mono ?_
          rintro e w8 ⟨rfl, hg8⟩
          replace HG := Lib.hid (HG.out.trans hg8)
          clear hg8 HB k_0 k_1 g_0 g_1 l_0
          go_wp2_with fail
          refine (HAW.out _ (hsh.gr HG.out)).mono ?_
          rintro e w9 ⟨rfl, hg9⟩
          have hgF := HG.out.trans hg9
          go_wp2
          go_ret
          exact ⟨rfl, hgF⟩
        · rw [ho4] at H4
          clear ho4 O4 C4
          refine (H4.out _).mono ?_
          rintro e w7 ⟨rfl, hg7⟩
          replace HG := Lib.hid ((HG.out.trans hg7).alloc (.cells #[.int .i64 0, .int .i64 0] 23))
          clear hg7 H4
          go_wp2_with fail
          refine (HAW.out _ (hsh.gr HG.out)).mono ?_
          rintro e w9 ⟨rfl, hg9⟩
          have hgF := HG.out.trans hg9
          go_wp2
          go_ret
          exact ⟨rfl, hgF⟩
      · rw [ho3] at H3
        clear ho3 O3 C3
        refine (H3.out _).mono ?_
        rintro e w5 ⟨rfl, hg5⟩
        replace HG := Lib.hid (HG.out.trans hg5)
        clear hg5 H3
        go_wp2_with fail
        rcases C4.out with ⟨a, b, ho4⟩ | ho4
        · obtain ⟨ev, tv⟩ := O4.out a b ho4
          have HB := Lib.hid (fun (u : World) => by have := cellStamp_any a b u; rw [tv, ev] at this; exact this)
          rw [ho4] at H4
          clear ho4 ev tv O4 C4
          refine (H4.out _).mono ?_
          rintro e w7 ⟨rfl, hg7⟩
          obtain ⟨k_0, k_1, g_0, g_1, l_0⟩ := blk2 (heap_alloc_new w7 (.cells #[.int .i64 a, .int .i64 b] 23))
          replace HG := Lib.hid ((HG.out.trans hg7).alloc (.cells #[.int .i64 a, .int .i64 b] 23))
          clear hg7 H4
          go_wp2_with fail
          refine (HB.out _).mono ?_
          rintro e w8 ⟨rfl, hg8⟩
          replace HG := Lib.hid (HG.out.trans hg8)
          clear hg8 HB k_0 k_1 g_0 g_1 l_0
          go_wp2_with fail
          refine (HAW.out _ (hsh.gr HG.out)).mono ?_
          rintro e w9 ⟨rfl, hg9⟩
          have hgF := HG.out.trans hg9
          go_wp2
          go_ret
          exact ⟨rfl, hgF⟩
        · rw [ho4] at H4
          clear ho4 O4 C4
          refine (H4.out _).mono ?_
          rintro e w7 ⟨rfl, hg7⟩
          replace HG := Lib.hid ((HG.out.trans hg7).alloc (.cells #[.int .i64 0, .int .i64 0] 23))
          clear hg7 H4
          go_wp2_with fail
          refine (HAW.out _ (hsh.gr HG.out)).mono ?_
          rintro e w9 ⟨rfl, hg9⟩
          have hgF := HG.out.trans hg9
          go_wp2
          go_ret
          exact ⟨rfl, hgF⟩
end Go.Proofs.YtpnojkgdjkncbaaDoor
