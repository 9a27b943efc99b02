/- What the rows stand on, part 19: CelT. Printed by bundle.py out of my texts. -/
import Derived.Test.YthgecojbggoniaaGreatDoorBe17
namespace Go.Proofs.YthgecojbggoniaaGreatDoor
open Go.RowKit
set_option maxRecDepth 100000
set_option linter.unusedVariables false
set_option linter.unusedSimpArgs false

theorem refIsId_any (n : Int) (w : World) : Calls Tryz.prog 121 #[.int .i64 n] w fun e w' => e = .returned (.bool (idB n)) ∧ w = w' := by
  have hU : Hid (idB n = (decide (1 ≤ n) && decide (n ≤ 9007199254740991))) := Lib.hid rfl
  cases h1 : decide (1 ≤ n) with
  | false =>
    go_enter Tryz.func121, Tryz.ntmps121
    go_wp2
    go_ret
    exact ⟨by rw [hU.out]; exact ret_bool (by simp [*]), rfl⟩
  | true =>
  cases h2 : decide (n ≤ 9007199254740991) with
  | false =>
    go_enter Tryz.func121, Tryz.ntmps121
    go_wp2
    go_ret
    exact ⟨by rw [hU.out]; exact ret_bool (by simp [*]), rfl⟩
  | true =>
    go_enter Tryz.func121, Tryz.ntmps121
    go_wp2
    go_ret
    exact ⟨by rw [hU.out]; exact ret_bool (by simp [*]), rfl⟩

def rheadB (id epoch prio : Int) (anchor : ByteArray) : Bool := plainB id epoch prio && (checkE anchor.size == 0)
set_option maxHeartbeats 1000000 in
theorem refHead_any (id ep pr : Int) (an : ByteArray) (w : World) :
    Calls Tryz.prog 104 #[.int .i64 id, .int .i64 ep, .int .i64 pr, .string an] w fun e w' => e = .returned (.bool (rheadB id ep pr an)) ∧ w = w' := by
  have HU : Hid (rheadB id ep pr an = ((idB id && decide (0 ≤ ep) && decide (ep ≤ 9007199254740991) && decide (1 ≤ pr) && decide (pr ≤ 1000)) && (checkE an.size == 0))) := Lib.hid rfl
  cases h1 : idB id with
  | false =>
    go_enter Tryz.func104, Tryz.ntmps104
    go_wp2_with (first
      | (go_at_call 121; refine (refIsId_any _ _).mono ?_; rintro e w1 ⟨rfl, rfl⟩)
      | (go_at_call 39; refine (refCheck_any _ _).mono ?_; rintro e w1 ⟨rfl, rfl⟩))
    go_ret
    exact ⟨by rw [HU.out]; exact ret_bool (by simp [*]), rfl⟩
  | true =>
  cases h2 : decide (0 ≤ ep) with
  | false =>
    go_enter Tryz.func104, Tryz.ntmps104
    go_wp2_with (first
      | (go_at_call 121; refine (refIsId_any _ _).mono ?_; rintro e w1 ⟨rfl, rfl⟩)
      | (go_at_call 39; refine (refCheck_any _ _).mono ?_; rintro e w1 ⟨rfl, rfl⟩))
    go_ret
    exact ⟨by rw [HU.out]; exact ret_bool (by simp [*]), rfl⟩
  | true =>
  cases h3 : decide (ep ≤ 9007199254740991) with
  | false =>
    go_enter Tryz.func104, Tryz.ntmps104
    go_wp2_with (first
      | (go_at_call 121; refine (refIsId_any _ _).mono ?_; rintro e w1 ⟨rfl, rfl⟩)
      | (go_at_call 39; refine (refCheck_any _ _).mono ?_; rintro e w1 ⟨rfl, rfl⟩))
    go_ret
    exact ⟨by rw [HU.out]; exact ret_bool (by simp [*]), rfl⟩
  | true =>
  cases h4 : decide (1 ≤ pr) with
  | false =>
    go_enter Tryz.func104, Tryz.ntmps104
    go_wp2_with (first
      | (go_at_call 121; refine (refIsId_any _ _).mono ?_; rintro e w1 ⟨rfl, rfl⟩)
      | (go_at_call 39; refine (refCheck_any _ _).mono ?_; rintro e w1 ⟨rfl, rfl⟩))
    go_ret
    exact ⟨by rw [HU.out]; exact ret_bool (by simp [*]), rfl⟩
  | true =>
  cases h5 : decide (pr ≤ 1000) with
  | false =>
    go_enter Tryz.func104, Tryz.ntmps104
    go_wp2_with (first
      | (go_at_call 121; refine (refIsId_any _ _).mono ?_; rintro e w1 ⟨rfl, rfl⟩)
      | (go_at_call 39; refine (refCheck_any _ _).mono ?_; rintro e w1 ⟨rfl, rfl⟩))
    go_ret
    exact ⟨by rw [HU.out]; exact ret_bool (by simp [*]), rfl⟩
  | true =>
  rcases checkE_cases an.size with h6 | h6
  ·
    go_enter Tryz.func104, Tryz.ntmps104
    go_wp2_with (first
      | (go_at_call 121; refine (refIsId_any _ _).mono ?_; rintro e w1 ⟨rfl, rfl⟩)
      | (go_at_call 39; refine (refCheck_any _ _).mono ?_; rintro e w1 ⟨rfl, rfl⟩))
    go_ret
    exact ⟨by rw [HU.out]; exact ret_bool (by simp [*]), rfl⟩
  ·
    go_enter Tryz.func104, Tryz.ntmps104
    go_wp2_with (first
      | (go_at_call 121; refine (refIsId_any _ _).mono ?_; rintro e w1 ⟨rfl, rfl⟩)
      | (go_at_call 39; refine (refCheck_any _ _).mono ?_; rintro e w1 ⟨rfl, rfl⟩))
    go_ret
    exact ⟨by rw [HU.out]; exact ret_bool (by simp [*]), rfl⟩

theorem chgOk_neg (la sq : Int) (va : ByteArray) (dl : Bool) : chgOk la ⟨sq, va, dl⟩ = !(decide (sq ≤ la) || decide (9007199254740991 < sq) || decide ((64 : Int) < (va.size : Int)) || (dl && !(va.size == 0))) := by
  unfold chgOk
  simp only [Bool.not_or, Bool.not_and, Bool.not_not]
  rw [show (!decide (sq ≤ la)) = decide (la < sq) by rw [Bool.eq_iff_iff]; simp, show (!decide (9007199254740991 < sq)) = decide (sq ≤ 9007199254740991) by rw [Bool.eq_iff_iff]; simp,
    show (!decide ((64 : Int) < (va.size : Int))) = decide (va.size ≤ 64) by rw [Bool.eq_iff_iff]; simp; omega]
theorem head_split (id ep pr : Int) (an : ByteArray) (a b c d : Int) : headB id ep pr an [(a, b), (c, d)] = (rheadB id ep pr an && (mayB a b && mayB c d)) := by
  simp [headB, rheadB]

set_option maxHeartbeats 4000000 in
theorem mayIntent_any {w : World} (x : Itt) {vl : Value} (h : RdC w vl x.l) (hlen : x.l.length ≤ 140737488355328) :
    Calls Tryz.prog 79 #[.agg #[.int .i64 x.id, .int .i64 x.epoch, .int .i64 x.prio, .string x.anchor, .int .i64 x.sw, .int .i64 x.sl, .int .i64 x.bw, .int .i64 x.bl, vl]] w fun e w' => e = .returned (.bool (ittOk x)) ∧ Gr w w' := by
  have hbx := heap_alloc_new w (.cells #[.int .i64 x.id, .int .i64 x.epoch, .int .i64 x.prio, .string x.anchor, .int .i64 x.sw, .int .i64 x.sl, .int .i64 x.bw, .int .i64 x.bl, vl] 40)
  have HBX := Lib.hid hbx
  obtain ⟨k_0, k_1, k_2, k_3, k_4, k_5, k_6, k_7, k_8, g_0, g_1, g_2, g_3, g_4, g_5, g_6, g_7, g_8, l_0⟩ := blk9 hbx
  clear hbx
  have HH := Lib.hid (fun w => refHead_any x.id x.epoch x.prio x.anchor w)
  have HU : Hid (ittOk x = ((rheadB x.id x.epoch x.prio x.anchor && (mayB x.sw x.sl && mayB x.bw x.bl)) && decide (1 ≤ x.l.length) && decide (x.l.length ≤ 16) && chgsOk 0 x.l)) := Lib.hid (by rw [← head_split]; rfl)
  have S1 := Lib.hid (fun w => refStampCheck_ck x.sw x.sl w)
  have S2 := Lib.hid (fun w => refStampCheck_ck x.bw x.bl w)
  have hk1 : stampCk x.sw x.sl = if mayB x.sw x.sl = true then 0 else 9 := rfl
  have hk2 : stampCk x.bw x.bl = if mayB x.bw x.bl = true then 0 else 9 := rfl
  generalize rheadB x.id x.epoch x.prio x.anchor = hd at HH HU
  generalize stampCk x.sw x.sl = s1 at S1 hk1
  generalize stampCk x.bw x.bl = s2 at S2 hk2
  generalize mayB x.sw x.sl = m1 at hk1 HU
  generalize mayB x.bw x.bl = m2 at hk2 HU
  have HL := Lib.hid h
  have hln : ∃ q n c, vl = .slice q n c ∧ n = x.l.length := by
    rcases h with ⟨h1, q, c, rfl, h2⟩ | ⟨blk, off, cap, rfl, h1, h2, h3, h4, h5⟩
    · exact ⟨q, 0, c, rfl, by rw [h1]; rfl⟩
    · exact ⟨_, _, _, rfl, rfl⟩
  obtain ⟨q, n, c, rfl, hn⟩ := hln
  have HN := Lib.hid hn
  have hn9 : n ≤ 140737488355328 := by omega
  clear hn h
  cases hd with
  | false =>
    go_enter Tryz.func79, Tryz.ntmps79
    go_wp2_with (first
      | (go_at_call 104; refine (HH.out _).mono ?_; rintro e w1 ⟨rfl, rfl⟩)
      | (go_at_call 40; first
        | ((with_reducible refine (S1.out _).mono ?_); rintro e w2 ⟨rfl, hg2⟩; (have hbx := hg2.blk (HBX.out)); obtain ⟨k_0, k_1, k_2, k_3, k_4, k_5, k_6, k_7, k_8, g_0, g_1, g_2, g_3, g_4, g_5, g_6, g_7, g_8, l_0⟩ := blk9 hbx; clear hbx)
        | ((with_reducible refine (S2.out _).mono ?_); rintro e w3 ⟨rfl, hg3⟩; (have hbx := hg3.blk (hg2.blk (HBX.out))); obtain ⟨k_0, k_1, k_2, k_3, k_4, k_5, k_6, k_7, k_8, g_0, g_1, g_2, g_3, g_4, g_5, g_6, g_7, g_8, l_0⟩ := blk9 hbx; clear hbx)))
    go_ret
    exact ⟨by rw [HU.out]; exact ret_bool (by simp [*]), (by repeat (first | (with_reducible exact Gr.refl _) | (with_reducible assumption) | (with_reducible refine Gr.alloc ?_ _) | (with_reducible refine Gr.drew ?_) | (with_reducible refine Gr.drewN ?_ _) | (with_reducible refine Gr.trans ?_ (by assumption)) | (with_reducible refine Gr.setCell ?_ (by first | exact Nat.le_refl _ | omega | (simp; done) | (simp; omega)) _)))⟩
  | true =>
  cases m1 with
  | false =>
    obtain rfl : s1 = 9 := hk1
    go_enter Tryz.func79, Tryz.ntmps79
    go_wp2_with (first
      | (go_at_call 104; refine (HH.out _).mono ?_; rintro e w1 ⟨rfl, rfl⟩)
      | (go_at_call 40; first
        | ((with_reducible refine (S1.out _).mono ?_); rintro e w2 ⟨rfl, hg2⟩; (have hbx := hg2.blk (HBX.out)); obtain ⟨k_0, k_1, k_2, k_3, k_4, k_5, k_6, k_7, k_8, g_0, g_1, g_2, g_3, g_4, g_5, g_6, g_7, g_8, l_0⟩ := blk9 hbx; clear hbx)
        | ((with_reducible refine (S2.out _).mono ?_); rintro e w3 ⟨rfl, hg3⟩; (have hbx := hg3.blk (hg2.blk (HBX.out))); obtain ⟨k_0, k_1, k_2, k_3, k_4, k_5, k_6, k_7, k_8, g_0, g_1, g_2, g_3, g_4, g_5, g_6, g_7, g_8, l_0⟩ := blk9 hbx; clear hbx)))
    go_ret
    exact ⟨by rw [HU.out]; exact ret_bool (by simp [*]), (by repeat (first | (with_reducible exact Gr.refl _) | (with_reducible assumption) | (with_reducible refine Gr.alloc ?_ _) | (with_reducible refine Gr.drew ?_) | (with_reducible refine Gr.drewN ?_ _) | (with_reducible refine Gr.trans ?_ (by assumption)) | (with_reducible refine Gr.setCell ?_ (by first | exact Nat.le_refl _ | omega | (simp; done) | (simp; omega)) _)))⟩
  | true =>
  obtain rfl : s1 = 0 := hk1
  cases m2 with
  | false =>
    obtain rfl : s2 = 9 := hk2
    go_enter Tryz.func79, Tryz.ntmps79
    go_wp2_with (first
      | (go_at_call 104; refine (HH.out _).mono ?_; rintro e w1 ⟨rfl, rfl⟩)
      | (go_at_call 40; first
        | ((with_reducible refine (S1.out _).mono ?_); rintro e w2 ⟨rfl, hg2⟩; (have hbx := hg2.blk (HBX.out)); obtain ⟨k_0, k_1, k_2, k_3, k_4, k_5, k_6, k_7, k_8, g_0, g_1, g_2, g_3, g_4, g_5, g_6, g_7, g_8, l_0⟩ := blk9 hbx; clear hbx)
        | ((with_reducible refine (S2.out _).mono ?_); rintro e w3 ⟨rfl, hg3⟩; (have hbx := hg3.blk (hg2.blk (HBX.out))); obtain ⟨k_0, k_1, k_2, k_3, k_4, k_5, k_6, k_7, k_8, g_0, g_1, g_2, g_3, g_4, g_5, g_6, g_7, g_8, l_0⟩ := blk9 hbx; clear hbx)))
    go_ret
    exact ⟨by rw [HU.out]; exact ret_bool (by simp [*]), (by repeat (first | (with_reducible exact Gr.refl _) | (with_reducible assumption) | (with_reducible refine Gr.alloc ?_ _) | (with_reducible refine Gr.drew ?_) | (with_reducible refine Gr.drewN ?_ _) | (with_reducible refine Gr.trans ?_ (by assumption)) | (with_reducible refine Gr.setCell ?_ (by first | exact Nat.le_refl _ | omega | (simp; done) | (simp; omega)) _)))⟩
  | true =>
  obtain rfl : s2 = 0 := hk2
  have HU2 : Hid (ittOk x = (!(decide ((n : Int) < 1) || decide ((16 : Int) < (n : Int))) && chgsOk 0 x.l)) := Lib.hid (by
    rw [HU.out, Bool.not_or, show (!decide ((n : Int) < 1)) = decide (1 ≤ x.l.length) by rw [Bool.eq_iff_iff, ← HN.out]; simp; omega, show (!decide ((16 : Int) < (n : Int))) = decide (x.l.length ≤ 16) by rw [Bool.eq_iff_iff, ← HN.out]; simp; omega]
    simp)
  cases l1 : decide ((n : Int) < 1) with
  | true =>
    go_enter Tryz.func79, Tryz.ntmps79
    go_wp2_with (first
      | (go_at_call 104; refine (HH.out _).mono ?_; rintro e w1 ⟨rfl, rfl⟩)
      | (go_at_call 40; first
        | ((with_reducible refine (S1.out _).mono ?_); rintro e w2 ⟨rfl, hg2⟩; (have hbx := hg2.blk (HBX.out)); obtain ⟨k_0, k_1, k_2, k_3, k_4, k_5, k_6, k_7, k_8, g_0, g_1, g_2, g_3, g_4, g_5, g_6, g_7, g_8, l_0⟩ := blk9 hbx; clear hbx)
        | ((with_reducible refine (S2.out _).mono ?_); rintro e w3 ⟨rfl, hg3⟩; (have hbx := hg3.blk (hg2.blk (HBX.out))); obtain ⟨k_0, k_1, k_2, k_3, k_4, k_5, k_6, k_7, k_8, g_0, g_1, g_2, g_3, g_4, g_5, g_6, g_7, g_8, l_0⟩ := blk9 hbx; clear hbx)))
    go_ret
    exact ⟨by rw [HU2.out]; exact ret_bool (by simp [*]), (by repeat (first | (with_reducible exact Gr.refl _) | (with_reducible assumption) | (with_reducible refine Gr.alloc ?_ _) | (with_reducible refine Gr.drew ?_) | (with_reducible refine Gr.drewN ?_ _) | (with_reducible refine Gr.trans ?_ (by assumption)) | (with_reducible refine Gr.setCell ?_ (by first | exact Nat.le_refl _ | omega | (simp; done) | (simp; omega)) _)))⟩
  | false =>
  cases l2 : decide ((16 : Int) < (n : Int)) with
  | true =>
    go_enter Tryz.func79, Tryz.ntmps79
    go_wp2_with (first
      | (go_at_call 104; refine (HH.out _).mono ?_; rintro e w1 ⟨rfl, rfl⟩)
      | (go_at_call 40; first
        | ((with_reducible refine (S1.out _).mono ?_); rintro e w2 ⟨rfl, hg2⟩; (have hbx := hg2.blk (HBX.out)); obtain ⟨k_0, k_1, k_2, k_3, k_4, k_5, k_6, k_7, k_8, g_0, g_1, g_2, g_3, g_4, g_5, g_6, g_7, g_8, l_0⟩ := blk9 hbx; clear hbx)
        | ((with_reducible refine (S2.out _).mono ?_); rintro e w3 ⟨rfl, hg3⟩; (have hbx := hg3.blk (hg2.blk (HBX.out))); obtain ⟨k_0, k_1, k_2, k_3, k_4, k_5, k_6, k_7, k_8, g_0, g_1, g_2, g_3, g_4, g_5, g_6, g_7, g_8, l_0⟩ := blk9 hbx; clear hbx)))
    go_ret
    exact ⟨by rw [HU2.out]; exact ret_bool (by simp [*]), (by repeat (first | (with_reducible exact Gr.refl _) | (with_reducible assumption) | (with_reducible refine Gr.alloc ?_ _) | (with_reducible refine Gr.drew ?_) | (with_reducible refine Gr.drewN ?_ _) | (with_reducible refine Gr.trans ?_ (by assumption)) | (with_reducible refine Gr.setCell ?_ (by first | exact Nat.le_refl _ | omega | (simp; done) | (simp; omega)) _)))⟩
  | false =>
  have HU3 : Hid (ittOk x = chgsOk 0 x.l) := Lib.hid (by rw [HU2.out, l1, l2]; simp)
  have hn1 : 1 ≤ n := by simp at l1; omega
  have hn16 : n ≤ 16 := by simp at l2; omega
  rcases HL.out with ⟨h1, q1, c1, h2, h3⟩ | ⟨blk, off, cap, h2, h1, h3, h4, h5, h6⟩
  · exfalso
    have := HN.out
    rw [h1] at this
    simp at this
    omega
  injection h2 with h2a h2b h2c
  subst h2a h2b h2c
  have H6 := Lib.hid h6
  clear h6 h4 h1
  go_enter Tryz.func79, Tryz.ntmps79
  go_wp2_with (first
    | (go_at_call 104; refine (HH.out _).mono ?_; rintro e w1 ⟨rfl, rfl⟩)
    | (go_at_call 40; first
      | ((with_reducible refine (S1.out _).mono ?_); rintro e w2 ⟨rfl, hg2⟩; (have hbx := hg2.blk (HBX.out)); obtain ⟨k_0, k_1, k_2, k_3, k_4, k_5, k_6, k_7, k_8, g_0, g_1, g_2, g_3, g_4, g_5, g_6, g_7, g_8, l_0⟩ := blk9 hbx; clear hbx)
      | ((with_reducible refine (S2.out _).mono ?_); rintro e w3 ⟨rfl, hg3⟩; (have hbx := hg3.blk (hg2.blk (HBX.out))); obtain ⟨k_0, k_1, k_2, k_3, k_4, k_5, k_6, k_7, k_8, g_0, g_1, g_2, g_3, g_4, g_5, g_6, g_7, g_8, l_0⟩ := blk9 hbx; clear hbx)))
  clear k_0 k_1 k_2 k_3 k_4 k_5 k_6 k_7 k_8 g_0 g_1 g_2 g_3 g_4 g_5 g_6 g_7 g_8 l1 l2
  have hg0 : Gr w w3 := (by repeat (first | (with_reducible exact Gr.refl _) | (with_reducible assumption) | (with_reducible refine Gr.alloc ?_ _) | (with_reducible refine Gr.drew ?_) | (with_reducible refine Gr.drewN ?_ _) | (with_reducible refine Gr.trans ?_ (by assumption)) | (with_reducible refine Gr.setCell ?_ (by first | exact Nat.le_refl _ | omega | (simp; done) | (simp; omega)) _)))
  have HB3 := Lib.hid (hg3.blk (hg2.blk HBX.out))
  go_loopw [3, 4] (fun z i wr => ∃ (k : Nat) (la : Int), k ≤ x.l.length ∧ i = .int .i64 k ∧ z = .int .i64 la ∧ Hid (true = chgsOk 0 (x.l.take k) ∧ la = lastSeq 0 (x.l.take k)) ∧ Gr w3 wr) (fun _ i _ => x.l.length - (intOf i).toNat)
  case atStart => exact ⟨0, 0, Nat.zero_le _, rfl, rfl, Lib.hid ⟨rfl, rfl⟩, (by repeat (first | (with_reducible exact Gr.refl _) | (with_reducible assumption) | (with_reducible refine Gr.alloc ?_ _) | (with_reducible refine Gr.drew ?_) | (with_reducible refine Gr.drewN ?_ _) | (with_reducible refine Gr.trans ?_ (by assumption)) | (with_reducible refine Gr.setCell ?_ (by first | exact Nat.le_refl _ | omega | (simp; done) | (simp; omega)) _)))⟩
  case round =>
    obtain ⟨k, la, hk, rfl, rfl, HI, hg⟩ := hrel
    have hgw : Gr w wr := hg0.trans hg
    obtain ⟨k_0, k_1, k_2, k_3, k_4, k_5, k_6, k_7, k_8, g_0, g_1, g_2, g_3, g_4, g_5, g_6, g_7, g_8, l_0⟩ := blk9 (hg.blk HB3.out)
    by_cases hlt : k < x.l.length
    · obtain ⟨c1, c2, c3⟩ := RdC.cells (fun i hi => by obtain ⟨ds, q1, q2, q3⟩ := H6.out i hi; exact ⟨ds, q1, fun j hj => hgw.cell' (q2 j hj), q3⟩) hlt
      have HS : Hid (chgsOk 0 (x.l.take (k + 1)) = (true && chgOk la x.l[k]) ∧ lastSeq 0 (x.l.take (k + 1)) = x.l[k].seq) := Lib.hid (by
        rw [List.take_succ_eq_append_getElem hlt, chgsOk_snoc, lastSeq_snoc, ← HI.out.1, ← HI.out.2]; exact ⟨rfl, rfl⟩)
      have HA : Hid (chgOk la x.l[k] = false → chgsOk 0 x.l = false) := Lib.hid (fun hf => by
        have h7 := HS.out.1
        rw [hf] at h7
        rw [← List.take_append_drop (k + 1) x.l]
        exact chgsOk_app _ _ _ h7)
      generalize x.l[k] = c at c1 c2 c3 HS HA
      obtain ⟨sq, va, dl⟩ := c
      have HC := Lib.hid (chgOk_neg la sq va dl)
      have e4 : va.toList.isEmpty = (va.size == 0) := by rw [isEmpty_size]; rfl
      simp only at c1 c2 c3
      cases a1 : decide (sq ≤ la) with
      | true =>
        go_wp2
        go_ret
        exact ⟨by rw [HU3.out]; exact ret_bool (by symm; exact HA.out (by rw [HC.out]; simp [*])), (by repeat (first | (with_reducible exact Gr.refl _) | (with_reducible assumption) | (with_reducible refine Gr.alloc ?_ _) | (with_reducible refine Gr.drew ?_) | (with_reducible refine Gr.drewN ?_ _) | (with_reducible refine Gr.trans ?_ (by assumption)) | (with_reducible refine Gr.setCell ?_ (by first | exact Nat.le_refl _ | omega | (simp; done) | (simp; omega)) _)))⟩
      | false =>
      cases a2 : decide (9007199254740991 < sq) with
      | true =>
        go_wp2
        go_ret
        exact ⟨by rw [HU3.out]; exact ret_bool (by symm; exact HA.out (by rw [HC.out]; simp [*])), (by repeat (first | (with_reducible exact Gr.refl _) | (with_reducible assumption) | (with_reducible refine Gr.alloc ?_ _) | (with_reducible refine Gr.drew ?_) | (with_reducible refine Gr.drewN ?_ _) | (with_reducible refine Gr.trans ?_ (by assumption)) | (with_reducible refine Gr.setCell ?_ (by first | exact Nat.le_refl _ | omega | (simp; done) | (simp; omega)) _)))⟩
      | false =>
      cases a3 : decide ((64 : Int) < (va.size : Int)) with
      | true =>
        go_wp2
        go_ret
        exact ⟨by rw [HU3.out]; exact ret_bool (by symm; exact HA.out (by rw [HC.out]; simp [*])), (by repeat (first | (with_reducible exact Gr.refl _) | (with_reducible assumption) | (with_reducible refine Gr.alloc ?_ _) | (with_reducible refine Gr.drew ?_) | (with_reducible refine Gr.drewN ?_ _) | (with_reducible refine Gr.trans ?_ (by assumption)) | (with_reducible refine Gr.setCell ?_ (by first | exact Nat.le_refl _ | omega | (simp; done) | (simp; omega)) _)))⟩
      | false =>
      cases dl with
      | false =>
        go_wp2
        go_roundw
        case rel => exact ⟨k + 1, _, by omega, by go_num, rfl, Lib.hid ⟨by rw [HS.out.1, HC.out]; simp [*], HS.out.2.symm⟩, (by repeat (first | (with_reducible exact Gr.refl _) | (with_reducible assumption) | (with_reducible refine Gr.alloc ?_ _) | (with_reducible refine Gr.drew ?_) | (with_reducible refine Gr.drewN ?_ _) | (with_reducible refine Gr.trans ?_ (by assumption)) | (with_reducible refine Gr.setCell ?_ (by first | exact Nat.le_refl _ | omega | (simp; done) | (simp; omega)) _)))⟩
        case measure => simp [intOf]; omega
      | true =>
      cases a4 : (va.size == 0) with
      | false =>
        rw [a4] at e4
        go_wp2
        go_ret
        exact ⟨by rw [HU3.out]; exact ret_bool (by symm; exact HA.out (by rw [HC.out]; simp [*])), (by repeat (first | (with_reducible exact Gr.refl _) | (with_reducible assumption) | (with_reducible refine Gr.alloc ?_ _) | (with_reducible refine Gr.drew ?_) | (with_reducible refine Gr.drewN ?_ _) | (with_reducible refine Gr.trans ?_ (by assumption)) | (with_reducible refine Gr.setCell ?_ (by first | exact Nat.le_refl _ | omega | (simp; done) | (simp; omega)) _)))⟩
      | true =>
        rw [a4] at e4
        go_wp2
        go_roundw
        case rel => exact ⟨k + 1, _, by omega, by go_num, rfl, Lib.hid ⟨by rw [HS.out.1, HC.out]; simp [*], HS.out.2.symm⟩, (by repeat (first | (with_reducible exact Gr.refl _) | (with_reducible assumption) | (with_reducible refine Gr.alloc ?_ _) | (with_reducible refine Gr.drew ?_) | (with_reducible refine Gr.drewN ?_ _) | (with_reducible refine Gr.trans ?_ (by assumption)) | (with_reducible refine Gr.setCell ?_ (by first | exact Nat.le_refl _ | omega | (simp; done) | (simp; omega)) _)))⟩
        case measure => simp [intOf]; omega
    · obtain rfl : k = x.l.length := by omega
      have hI := HI.out.1
      rw [List.take_length] at hI
      have HI2 := Lib.hid hI
      clear hI
      go_wp2
      go_ret
      exact ⟨by rw [HU3.out]; exact ret_bool HI2.out, hgw⟩
end Go.Proofs.YthgecojbggoniaaGreatDoor
