/- Layer 11's keys: the program's side; the chapter's examples. -/
import Derived.Test.YtpnojkgdjkncbaaDoorCelK
import Derived.Test.YtpnojkgdjkncbaaDoorOrdC
import Derived.Test.YtpnojkgdjkncbaaDoorPlainA
import Derived.Test.YtpnojkgdjkncbaaDoorShelf
namespace Go.Proofs.YtpnojkgdjkncbaaDoor
open Go.RowKit
set_option maxRecDepth 100000
set_option linter.unusedVariables false
set_option linter.unusedSimpArgs false

theorem key_all (s : ByteArray) (w : World) (hw : Sh w) :
    Calls Tryd.prog 63 #[.string s] w fun e w' => e = .returned (.tuple #[.string ⟨(keyR s.data.toList).1.toArray⟩, .int .i64 (keyR s.data.toList).2]) ∧ Gr w w' := by
  by_cases hs : s.size ≤ 1000
  · rw [show keyR s.data.toList = (keyL s.data.toList, 0) by unfold keyR; rw [if_pos (by simpa using hs)]]
    exact key_any s hs w hw
  · rw [show keyR s.data.toList = ([], 5) by unfold keyR; rw [if_neg (by simpa using hs)]]
    refine (key_long s (by omega) w).mono ?_
    rintro e w' ⟨rfl, rfl⟩
    exact ⟨rfl, Gr.refl _⟩
theorem down_all (a b : Int) (w : World) :
    Calls Tryd.prog 64 #[.agg #[.int .i64 a, .int .i64 b]] w fun e w' => e = .returned (.tuple #[.string ⟨(downR a b).1.toArray⟩, .int .i64 (downR a b).2]) ∧ Gr w w' := by
  by_cases h : mayB a b = true
  · rw [show downR a b = (downL a b, 0) by unfold downR; rw [if_pos h]]
    exact down_yes a b w h
  · rw [show downR a b = ([], 2) by unfold downR; rw [if_neg h]]
    exact down_no a b w (by simpa using h)

theorem ba_beq (a b : List UInt8) : ((⟨a.toArray⟩ : ByteArray) == ⟨b.toArray⟩) = decide (a = b) := by
  show (a.toArray == b.toArray) = decide (a = b)
  rw [Bool.eq_iff_iff]
  simp
theorem ba_bne (a b : List UInt8) : ((⟨a.toArray⟩ : ByteArray) != ⟨b.toArray⟩) = decide (a ≠ b) := by
  rw [bne, ba_beq]; simp
theorem ba_len (l : List UInt8) : (⟨l.toArray⟩ : ByteArray).size = l.length := by simp [ByteArray.size]
theorem ext_n (l : List UInt8) (n : Nat) : (⟨l.toArray⟩ : ByteArray).extract 0 n = ⟨(l.take n).toArray⟩ := ba_ext (by simp)

def thresholdR (n : Int) : List UInt8 × Int := if 1 ≤ n ∧ n ≤ 6 then ([103, UInt8.ofNat n.toNat], 0) else ([], 2)
def intentKeyR (l : List UInt8) : List UInt8 × Int := if l.length ≤ 1000 then (105 :: keyL l, 0) else ([], 2)
def versionKeyR (l : List UInt8) (a b : Int) : List UInt8 × Int := if l.length ≤ 1000 ∧ mayB a b = true then (118 :: (keyL l ++ downL a b), 0) else ([], 2)
def whoseR (l : List UInt8) (c : UInt8) : List UInt8 × List UInt8 × Bool :=
  match l with
  | [] => ([], [], false)
  | d :: t => if d = c then ((takeL [] t).1, (takeL [] t).2.1, decide ((takeL [] t).2.2 = 0)) else ([], [], false)
def readIntentR (l : List UInt8) : List UInt8 × Int := if (whoseR l 105).2.2 = true ∧ (whoseR l 105).2.1 = [] then ((whoseR l 105).1, 0) else ([], 4)
def readVersionR (l : List UInt8) : List UInt8 × Int × Int × Int :=
  if (whoseR l 118).2.2 = true ∧ (takeDownL (whoseR l 118).2.1).2.2.2 = 0 ∧ (takeDownL (whoseR l 118).2.1).2.2.1 = [] then ((whoseR l 118).1, (takeDownL (whoseR l 118).2.1).1, (takeDownL (whoseR l 118).2.1).2.1, 0) else ([], 0, 0, 4)

theorem bound_any (w : World) : Calls Tryd.prog 39 #[] w fun e w' => e = .returned (.string ⟨#[98]⟩) ∧ w = w' := by
  go_enter Tryd.func39, Tryd.ntmps39
  go_wp2
  go_ret
  exact ⟨rfl, rfl⟩

theorem threshold_any (n : Int) (w : World) : Calls Tryd.prog 38 #[.int .i64 n] w fun e w' => e = .returned (.tuple #[.string ⟨(thresholdR n).1.toArray⟩, .int .i64 (thresholdR n).2]) ∧ Gr w w' := by
  by_cases h1 : n < 1
  · have ht : thresholdR n = ([], 2) := by unfold thresholdR; rw [if_neg (by omega)]
    rw [ht]
    clear ht
    go_enter Tryd.func38, Tryd.ntmps38
    go_wp2
    go_ret2
    exact ⟨rfl, (by repeat (first | (with_reducible exact Gr.refl _) | (with_reducible assumption) | (with_reducible refine Gr.alloc ?_ _) | (with_reducible refine Gr.drew ?_) | (with_reducible refine Gr.drewN ?_ _) | (with_reducible refine Gr.trans ?_ (by assumption)) | (with_reducible refine Gr.setCell ?_ (by first | exact Nat.le_refl _ | omega | (simp; done) | (simp; omega)) _)))⟩
  by_cases h2 : 6 < n
  · have ht : thresholdR n = ([], 2) := by unfold thresholdR; rw [if_neg (by omega)]
    rw [ht]
    clear ht
    go_enter Tryd.func38, Tryd.ntmps38
    go_wp2
    go_ret2
    exact ⟨rfl, (by repeat (first | (with_reducible exact Gr.refl _) | (with_reducible assumption) | (with_reducible refine Gr.alloc ?_ _) | (with_reducible refine Gr.drew ?_) | (with_reducible refine Gr.drewN ?_ _) | (with_reducible refine Gr.trans ?_ (by assumption)) | (with_reducible refine Gr.setCell ?_ (by first | exact Nat.le_refl _ | omega | (simp; done) | (simp; omega)) _)))⟩
  · have ht : thresholdR n = ([103, UInt8.ofNat n.toNat], 0) := by unfold thresholdR; rw [if_pos (by omega)]
    rw [ht]
    clear ht
    have hcv := fun (W : World) => conv_row (W := W.alloc (.cells #[.int .u8 n] 5)) (b := W.heap.size) (n := 1) (c := 1) [n] (heap_alloc_new _ _) rfl rfl
    go_enter Tryd.func38, Tryd.ntmps38
    go_wp2
    go_ret2
    refine ⟨?_, (by repeat (first | (with_reducible exact Gr.refl _) | (with_reducible assumption) | (with_reducible refine Gr.alloc ?_ _) | (with_reducible refine Gr.drew ?_) | (with_reducible refine Gr.drewN ?_ _) | (with_reducible refine Gr.trans ?_ (by assumption)) | (with_reducible refine Gr.setCell ?_ (by first | exact Nat.le_refl _ | omega | (simp; done) | (simp; omega)) _)))⟩
    rcases (show n = 1 ∨ n = 2 ∨ n = 3 ∨ n = 4 ∨ n = 5 ∨ n = 6 by omega) with rfl | rfl | rfl | rfl | rfl | rfl <;> rfl

theorem keyR_cases (l : List UInt8) : (l.length ≤ 1000 ∧ keyR l = (keyL l, 0)) ∨ (1000 < l.length ∧ keyR l = ([], 5)) := by
  unfold keyR
  by_cases h : l.length ≤ 1000
  · exact .inl ⟨h, if_pos h⟩
  · exact .inr ⟨by omega, if_neg h⟩
theorem downR_cases (a b : Int) : (mayB a b = true ∧ downR a b = (downL a b, 0)) ∨ (mayB a b = false ∧ downR a b = ([], 2)) := by
  unfold downR
  cases h : mayB a b <;> simp
theorem keyL_len (l : List UInt8) (h : l.length ≤ 1000) : (keyL l).length ≤ 2002 := by
  have := esc_length_le l
  simp [keyL]; omega

theorem intentKey_any (s : ByteArray) (w : World) (hw : Sh w) : Calls Tryd.prog 21 #[.string s] w fun e w' => e = .returned (.tuple #[.string ⟨(intentKeyR s.data.toList).1.toArray⟩, .int .i64 (intentKeyR s.data.toList).2]) ∧ Gr w w' := by
  have HK := Lib.hid (key_all s w hw)
  rcases keyR_cases s.data.toList with ⟨h1, h2⟩ | ⟨h1, h2⟩
  · have ht : intentKeyR s.data.toList = (105 :: keyL s.data.toList, 0) := by unfold intentKeyR; rw [if_pos h1]
    have hlen := keyL_len _ h1
    rw [ht]
    rw [h2] at HK
    clear ht h2
    have hap := str_append [105] (keyL s.data.toList)
    have HA := Lib.hid hap
    clear hap
    go_enter Tryd.func21, Tryd.ntmps21
    go_wp2_with (go_at_call 63; refine HK.out.mono ?_; rintro e w1 ⟨rfl, hg1⟩)
    go_ret2
    exact ⟨by rw [show (⟨(105 :: keyL s.data.toList).toArray⟩ : ByteArray) = _ from HA.out.symm]; rfl, (by repeat (first | (with_reducible exact Gr.refl _) | (with_reducible assumption) | (with_reducible refine Gr.alloc ?_ _) | (with_reducible refine Gr.drew ?_) | (with_reducible refine Gr.drewN ?_ _) | (with_reducible refine Gr.trans ?_ (by assumption)) | (with_reducible refine Gr.setCell ?_ (by first | exact Nat.le_refl _ | omega | (simp; done) | (simp; omega)) _)))⟩
  · have ht : intentKeyR s.data.toList = ([], 2) := by unfold intentKeyR; rw [if_neg (by omega)]
    rw [ht]
    rw [h2] at HK
    clear ht h2
    go_enter Tryd.func21, Tryd.ntmps21
    go_wp2_with (go_at_call 63; refine HK.out.mono ?_; rintro e w1 ⟨rfl, hg1⟩)
    go_ret2
    exact ⟨rfl, (by repeat (first | (with_reducible exact Gr.refl _) | (with_reducible assumption) | (with_reducible refine Gr.alloc ?_ _) | (with_reducible refine Gr.drew ?_) | (with_reducible refine Gr.drewN ?_ _) | (with_reducible refine Gr.trans ?_ (by assumption)) | (with_reducible refine Gr.setCell ?_ (by first | exact Nat.le_refl _ | omega | (simp; done) | (simp; omega)) _)))⟩

theorem downL_len (a b : Int) : (downL a b).length = 9 := downL_length a b
theorem versionKey_any (s : ByteArray) (a b : Int) (w : World) (hw : Sh w) : Calls Tryd.prog 20 #[.string s, .agg #[.int .i64 a, .int .i64 b]] w fun e w' => e = .returned (.tuple #[.string ⟨(versionKeyR s.data.toList a b).1.toArray⟩, .int .i64 (versionKeyR s.data.toList a b).2]) ∧ Gr w w' := by
  have HK := Lib.hid (fun w hw => key_all s w hw)
  have HD := Lib.hid (fun w => down_all a b w)
  have HA := Lib.hid (str_append [118] (keyL s.data.toList))
  have HB := Lib.hid (str_append (118 :: keyL s.data.toList) (downL a b))
  rcases keyR_cases s.data.toList with ⟨h1, h2⟩ | ⟨h1, h2⟩ <;> rcases downR_cases a b with ⟨g1, g2⟩ | ⟨g1, g2⟩
  · have ht : versionKeyR s.data.toList a b = (118 :: (keyL s.data.toList ++ downL a b), 0) := by unfold versionKeyR; rw [if_pos ⟨h1, g1⟩]
    have hl1 := keyL_len _ h1
    have hl2 := downL_len a b
    have hl3 : (downL a b).length ≤ 9 := by omega
    rw [ht]
    rw [h2] at HK
    rw [g2] at HD
    clear ht g1 hl2
    clear h2 g2
    go_enter Tryd.func20, Tryd.ntmps20
    go_wp2_with (first
      | (go_at_call 63; refine (HK.out _ (hw.gr (by repeat (first | (with_reducible exact Gr.refl _) | (with_reducible assumption) | (with_reducible refine Gr.alloc ?_ _) | (with_reducible refine Gr.drew ?_) | (with_reducible refine Gr.drewN ?_ _) | (with_reducible refine Gr.trans ?_ (by assumption)) | (with_reducible refine Gr.setCell ?_ (by first | exact Nat.le_refl _ | omega | (simp; done) | (simp; omega)) _))))).mono ?_; rintro e w1 ⟨rfl, hg1⟩; (have hX := hg1.blk (heap_alloc_new _ _)); obtain ⟨k_0, k_1, g_0, g_1, l_0⟩ := blk2 hX; clear hX)
      | (go_at_call 64; refine (HD.out _).mono ?_; rintro e w2 ⟨rfl, hg2⟩))
    go_ret2
    exact ⟨by rw [show (⟨(118 :: (keyL s.data.toList ++ downL a b)).toArray⟩ : ByteArray) = _ from HB.out.symm]; rw [show (⟨(118 :: keyL s.data.toList).toArray⟩ : ByteArray) = _ from HA.out.symm]; rfl, (by repeat (first | (with_reducible exact Gr.refl _) | (with_reducible assumption) | (with_reducible refine Gr.alloc ?_ _) | (with_reducible refine Gr.drew ?_) | (with_reducible refine Gr.drewN ?_ _) | (with_reducible refine Gr.trans ?_ (by assumption)) | (with_reducible refine Gr.setCell ?_ (by first | exact Nat.le_refl _ | omega | (simp; done) | (simp; omega)) _)))⟩
  all_goals
    have ht : versionKeyR s.data.toList a b = ([], 2) := by unfold versionKeyR; rw [if_neg (by rintro ⟨h, h'⟩; first | omega | (rw [g1] at h'; simp at h'))]
    rw [ht]
    rw [h2] at HK
    rw [g2] at HD
    clear ht g1
    clear h2 g2
    go_enter Tryd.func20, Tryd.ntmps20
    go_wp2_with (first
      | (go_at_call 63; refine (HK.out _ (hw.gr (by repeat (first | (with_reducible exact Gr.refl _) | (with_reducible assumption) | (with_reducible refine Gr.alloc ?_ _) | (with_reducible refine Gr.drew ?_) | (with_reducible refine Gr.drewN ?_ _) | (with_reducible refine Gr.trans ?_ (by assumption)) | (with_reducible refine Gr.setCell ?_ (by first | exact Nat.le_refl _ | omega | (simp; done) | (simp; omega)) _))))).mono ?_; rintro e w1 ⟨rfl, hg1⟩; (have hX := hg1.blk (heap_alloc_new _ _)); obtain ⟨k_0, k_1, g_0, g_1, l_0⟩ := blk2 hX; clear hX)
      | (go_at_call 64; refine (HD.out _).mono ?_; rintro e w2 ⟨rfl, hg2⟩))
    go_ret2
    exact ⟨rfl, (by repeat (first | (with_reducible exact Gr.refl _) | (with_reducible assumption) | (with_reducible refine Gr.alloc ?_ _) | (with_reducible refine Gr.drew ?_) | (with_reducible refine Gr.drewN ?_ _) | (with_reducible refine Gr.trans ?_ (by assumption)) | (with_reducible refine Gr.setCell ?_ (by first | exact Nat.le_refl _ | omega | (simp; done) | (simp; omega)) _)))⟩

theorem whose_any (s : ByteArray) (hs : s.size ≤ 140737488355328) (c : UInt8) (w : World) : Calls Tryd.prog 75 #[.string s, .string ⟨#[c]⟩] w fun e w' =>
    e = .returned (.tuple #[.string ⟨(whoseR s.data.toList c).1.toArray⟩, .string ⟨(whoseR s.data.toList c).2.1.toArray⟩, .bool (whoseR s.data.toList c).2.2]) ∧ Gr w w' := by
  have hz : (⟨#[c]⟩ : ByteArray).size = 1 := rfl
  obtain ⟨l, rfl⟩ : ∃ l : List UInt8, s = ⟨l.toArray⟩ := ⟨s.data.toList, ba_mk s⟩
  rw [ba_len] at hs
  have hsl := ba_len l
  show Calls _ _ _ _ fun e w' => e = .returned (.tuple #[.string ⟨(whoseR l c).1.toArray⟩, .string ⟨(whoseR l c).2.1.toArray⟩, .bool (whoseR l c).2.2]) ∧ Gr w w'
  cases l with
  | nil =>
    have ht : whoseR [] c = ([], [], false) := rfl
    rw [ht]
    have hsl : (⟨([] : List UInt8).toArray⟩ : ByteArray).size = 0 := rfl
    clear ht
    go_enter Tryd.func75, Tryd.ntmps75
    go_wp2
    go_ret3
    exact ⟨rfl, (by repeat (first | (with_reducible exact Gr.refl _) | (with_reducible assumption) | (with_reducible refine Gr.alloc ?_ _) | (with_reducible refine Gr.drew ?_) | (with_reducible refine Gr.drewN ?_ _) | (with_reducible refine Gr.trans ?_ (by assumption)) | (with_reducible refine Gr.setCell ?_ (by first | exact Nat.le_refl _ | omega | (simp; done) | (simp; omega)) _)))⟩
  | cons d t =>
    have hx : (⟨(d :: t).toArray⟩ : ByteArray).extract 0 1 = ⟨[d].toArray⟩ := ext_n (d :: t) 1
    rw [List.length_cons] at hsl hs
    by_cases hdc : d = c
    · subst hdc
      have hy : (⟨(d :: t).toArray⟩ : ByteArray).extract 1 (t.length + 1) = ⟨t.toArray⟩ := by
        have := ext_drop ⟨(d :: t).toArray⟩ 1
        rw [ba_len] at this
        exact this
      have ht : whoseR (d :: t) d = ((takeL [] t).1, (takeL [] t).2.1, decide ((takeL [] t).2.2 = 0)) := by simp [whoseR]
      rw [ht]
      have HT := Lib.hid (fun w => takeKey_any ⟨t.toArray⟩ (by rw [ba_len]; omega) w)
      have hne : ((⟨#[d]⟩ : ByteArray) != ⟨#[d]⟩) = false := (ba_bne [d] [d]).trans (by simp)
      clear ht
      go_enter Tryd.func75, Tryd.ntmps75
      go_wp2_with (go_at_call 99; refine (HT.out _).mono ?_; rintro e w1 ⟨rfl, hg1⟩)
      go_ret3
      exact ⟨rfl, by assumption⟩
    · have ht : whoseR (d :: t) c = ([], [], false) := by simp [whoseR, hdc]
      rw [ht]
      have hne : ((⟨#[d]⟩ : ByteArray) != ⟨#[c]⟩) = true := (ba_bne [d] [c]).trans (by simp [hdc])
      have hdc' : (d == c) = false := by simpa using hdc
      clear ht
      go_enter Tryd.func75, Tryd.ntmps75
      go_wp2
      go_ret3
      exact ⟨rfl, (by repeat (first | (with_reducible exact Gr.refl _) | (with_reducible assumption) | (with_reducible refine Gr.alloc ?_ _) | (with_reducible refine Gr.drew ?_) | (with_reducible refine Gr.drewN ?_ _) | (with_reducible refine Gr.trans ?_ (by assumption)) | (with_reducible refine Gr.setCell ?_ (by first | exact Nat.le_refl _ | omega | (simp; done) | (simp; omega)) _)))⟩

theorem readIntent_any (s : ByteArray) (hs : s.size ≤ 140737488355328) (w : World) : Calls Tryd.prog 41 #[.string s] w fun e w' =>
    e = .returned (.tuple #[.string ⟨(readIntentR s.data.toList).1.toArray⟩, .int .i64 (readIntentR s.data.toList).2]) ∧ Gr w w' := by
  have HT := Lib.hid (fun w => whose_any s hs 105 w)
  have HU : Hid (readIntentR s.data.toList = if (whoseR s.data.toList 105).2.2 = true ∧ (whoseR s.data.toList 105).2.1 = [] then ((whoseR s.data.toList 105).1, 0) else ([], 4)) := Lib.hid rfl
  generalize (whoseR s.data.toList 105) = r at HT HU
  obtain ⟨a, b, c⟩ := r
  cases c with
  | false =>
    go_enter Tryd.func41, Tryd.ntmps41
    go_wp2_with (go_at_call 75; refine (HT.out _).mono ?_; rintro e w1 ⟨rfl, hg1⟩)
    go_ret2
    exact ⟨by rw [HU.out]; simp, by assumption⟩
  | true =>
    cases b with
    | nil =>
      go_enter Tryd.func41, Tryd.ntmps41
      go_wp2_with (go_at_call 75; refine (HT.out _).mono ?_; rintro e w1 ⟨rfl, hg1⟩)
      go_ret2
      exact ⟨by rw [HU.out]; simp, by assumption⟩
    | cons x t =>
      have hne : ((⟨(x :: t).toArray⟩ : ByteArray) != ⟨#[]⟩) = true := (ba_bne (x :: t) []).trans (by simp)
      have hem : (⟨(x :: t).toArray⟩ : ByteArray).toList.isEmpty = false := by rw [isEmpty_size, ba_len]; simp
      go_enter Tryd.func41, Tryd.ntmps41
      go_wp2_with (go_at_call 75; refine (HT.out _).mono ?_; rintro e w1 ⟨rfl, hg1⟩)
      go_ret2
      exact ⟨by rw [HU.out]; simp, by assumption⟩

theorem numW_one : numW 1 = [1, 1] := by unfold numW numT; rw [if_pos (by decide)]; rw [show (1 : Int).toNat = 1 from rfl, numD_small (by decide) (by decide)]; rfl
theorem numW_zero : numW 0 = [0] := by unfold numW numT; rw [if_pos (by decide)]; rw [show (0 : Int).toNat = 0 from rfl, numD_zero]; rfl
theorem strW_x : strW [120] = [1, 1, 120] := by unfold strW numT; rw [if_pos (by decide)]; rw [show [(120 : UInt8)].length = 1 from rfl, numD_small (by decide) (by decide)]; rfl
theorem aw1 (w : World) : Calls Tryd.prog 38 #[.int .i64 2] w fun e w' => e = .returned (.tuple #[.string ⟨#[103, 2]⟩, .int .i64 0]) ∧ Gr w w' := by
  have := threshold_any 2 w
  rwa [show thresholdR 2 = ([103, 2], 0) by decide] at this
theorem aw2 (w : World) : Calls Tryd.prog 38 #[.int .i64 7] w fun e w' => e = .returned (.tuple #[.string ⟨#[]⟩, .int .i64 2]) ∧ Gr w w' := by
  have := threshold_any 7 w
  rwa [show thresholdR 7 = ([], 2) by decide] at this
theorem aw3 (w : World) (hw : Sh w) : Calls Tryd.prog 21 #[.string ⟨#[97]⟩] w fun e w' => e = .returned (.tuple #[.string ⟨#[105, 97, 0, 0]⟩, .int .i64 0]) ∧ Gr w w' := by
  have := intentKey_any ⟨#[97]⟩ w hw
  rwa [show intentKeyR (⟨#[97]⟩ : ByteArray).data.toList = ([105, 97, 0, 0], 0) by decide] at this
theorem aw4 (w : World) : Calls Tryd.prog 41 #[.string ⟨#[105, 97, 0, 0]⟩] w fun e w' => e = .returned (.tuple #[.string ⟨#[97]⟩, .int .i64 0]) ∧ Gr w w' := by
  have := readIntent_any ⟨#[105, 97, 0, 0]⟩ (by decide) w
  rwa [show readIntentR (⟨#[105, 97, 0, 0]⟩ : ByteArray).data.toList = ([97], 0) by decide] at this
theorem aw5 (w : World) : Calls Tryd.prog 15 #[.string ⟨#[120]⟩, .bool true] w fun e w' => e = .returned (.tuple #[.string ⟨#[1, 1, 1, 1, 120]⟩, .int .i64 0]) ∧ Gr w w' := by
  have := cellVersion_any ⟨#[120]⟩ true w
  rwa [show versionW (⟨#[120]⟩ : ByteArray).data.toList true = [1, 1, 1, 1, 120] by show (if okV [120] true = true then (if true = true then numW 1 ++ strW [120] else numW 0) else []) = _; rw [numW_one, strW_x]; rfl, show versionE (⟨#[120]⟩ : ByteArray).data.toList true = 0 by decide] at this
theorem aw6 (w : World) : Calls Tryd.prog 15 #[.string ⟨#[120]⟩, .bool false] w fun e w' => e = .returned (.tuple #[.string ⟨#[]⟩, .int .i64 2]) ∧ Gr w w' := by
  have := cellVersion_any ⟨#[120]⟩ false w
  rwa [show versionW (⟨#[120]⟩ : ByteArray).data.toList false = [] by show (if okV [120] false = true then _ else []) = _; rw [if_neg (by decide)], show versionE (⟨#[120]⟩ : ByteArray).data.toList false = 2 by decide] at this
theorem aw7 (w : World) : Calls Tryd.prog 15 #[.string ⟨#[]⟩, .bool false] w fun e w' => e = .returned (.tuple #[.string ⟨#[0]⟩, .int .i64 0]) ∧ Gr w w' := by
  have := cellVersion_any ⟨#[]⟩ false w
  rwa [show versionW (⟨#[]⟩ : ByteArray).data.toList false = [0] by show (if okV [] false = true then (if false = true then numW 1 ++ strW [] else numW 0) else []) = _; rw [numW_zero]; rfl, show versionE (⟨#[]⟩ : ByteArray).data.toList false = 0 by decide] at this
theorem aw8 (w : World) : Calls Tryd.prog 47 #[.string ⟨#[1, 1, 1, 1, 120]⟩] w fun e w' => e = .returned (.tuple #[.string ⟨#[120]⟩, .bool true, .int .i64 0]) ∧ Gr w w' := by
  have := takeVersion_any ⟨#[1, 1, 1, 1, 120]⟩ (by decide) w
  rwa [show takeVerR (⟨#[1, 1, 1, 1, 120]⟩ : ByteArray).data.toList = ([120], true, 0) by decide] at this
theorem aw9 (w : World) : Calls Tryd.prog 47 #[.string ⟨#[0]⟩] w fun e w' => e = .returned (.tuple #[.string ⟨#[]⟩, .bool false, .int .i64 0]) ∧ Gr w w' := by
  have := takeVersion_any ⟨#[0]⟩ (by decide) w
  rwa [show takeVerR (⟨#[0]⟩ : ByteArray).data.toList = ([], false, 0) by decide] at this

set_option maxHeartbeats 2000000 in
theorem awake_any (w : World) (hw : Sh w) : Calls Tryd.prog 17 #[] w fun e w' => e = .returned (.bool true) ∧ Gr w w' := by
  go_enter Tryd.func17, Tryd.ntmps17
  go_wp2_with fail
  refine (aw1 _).mono ?_; rintro e w1 ⟨rfl, hg1⟩
  go_wp2_with fail
  refine (aw2 _).mono ?_; rintro e w2 ⟨rfl, hg2⟩
  go_wp2_with fail
  refine (aw3 _ (hw.gr (by repeat (first | (with_reducible exact Gr.refl _) | (with_reducible assumption) | (with_reducible refine Gr.alloc ?_ _) | (with_reducible refine Gr.drew ?_) | (with_reducible refine Gr.drewN ?_ _) | (with_reducible refine Gr.trans ?_ (by assumption)) | (with_reducible refine Gr.setCell ?_ (by first | exact Nat.le_refl _ | omega | (simp; done) | (simp; omega)) _))))).mono ?_; rintro e w3 ⟨rfl, hg3⟩
  go_wp2_with fail
  refine (aw4 _).mono ?_; rintro e w4 ⟨rfl, hg4⟩
  go_wp2_with fail
  refine (aw5 _).mono ?_; rintro e w5 ⟨rfl, hg5⟩
  go_wp2_with fail
  refine (aw6 _).mono ?_; rintro e w6 ⟨rfl, hg6⟩
  go_wp2_with fail
  refine (aw7 _).mono ?_; rintro e w7 ⟨rfl, hg7⟩
  go_wp2_with fail
  refine (aw8 _).mono ?_; rintro e w8 ⟨rfl, hg8⟩
  go_wp2_with fail
  refine (aw9 _).mono ?_; rintro e w9 ⟨rfl, hg9⟩
  go_wp2_with fail
  refine (bound_any _).mono ?_; rintro e w10 ⟨rfl, rfl⟩
  go_wp2
  go_ret
  exact ⟨rfl, (by repeat (first | (with_reducible exact Gr.refl _) | (with_reducible assumption) | (with_reducible refine Gr.alloc ?_ _) | (with_reducible refine Gr.drew ?_) | (with_reducible refine Gr.drewN ?_ _) | (with_reducible refine Gr.trans ?_ (by assumption)) | (with_reducible refine Gr.setCell ?_ (by first | exact Nat.le_refl _ | omega | (simp; done) | (simp; omega)) _)))⟩
end Go.Proofs.YtpnojkgdjkncbaaDoor
