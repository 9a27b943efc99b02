/- Layer 11's keys: the program's side; the chapter's examples. -/
import Derived.Test.YtocijpeminghoaaGreatDoorCelK
import Derived.Test.YtocijpeminghoaaGreatDoorOrdC
import Derived.Test.YtocijpeminghoaaGreatDoorPlainA
import Derived.Test.YtocijpeminghoaaGreatDoorShelf
namespace Go.Proofs.YtocijpeminghoaaGreatDoor
open Go.RowKit
set_option maxRecDepth 100000
set_option linter.unusedVariables false
set_option linter.unusedSimpArgs false

theorem key_all (s : ByteArray) (w : World) (hw : Sh w) :
    Calls Tryz.prog 69 #[.string s] w fun e w' => e = .returned (.tuple #[.string ⟨(keyR s.data.toList).1.toArray⟩, .int .i64 (keyR s.data.toList).2]) ∧ Gr w w' := by
  by_cases hs : s.size ≤ 1000
  · rw [show keyR s.data.toList = (keyL s.data.toList, 0) by unfold keyR; rw [if_pos (by simpa using hs)]]
    exact key_any s hs w hw
  · rw [show keyR s.data.toList = ([], 5) by unfold keyR; rw [if_neg (by simpa using hs)]]
    refine (key_long s (by omega) w).mono ?_
    rintro e w' ⟨rfl, rfl⟩
    exact ⟨rfl, Gr.refl _⟩
theorem down_all (a b : Int) (w : World) :
    Calls Tryz.prog 70 #[.agg #[.int .i64 a, .int .i64 b]] w fun e w' => e = .returned (.tuple #[.string ⟨(downR a b).1.toArray⟩, .int .i64 (downR a b).2]) ∧ Gr w w' := by
  by_cases h : mayB a b = true
  · rw [show downR a b = (downL a b, 0) by unfold downR; rw [if_pos h]]
    exact down_yes a b w h
  · rw [show downR a b = ([], 2) by unfold downR; rw [if_neg h]]
    exact down_no a b w (by simpa using h)

theorem ba_beq (a b : List UInt8) : ((⟨a.toArray⟩ : ByteArray) == ⟨b.toArray⟩) = decide (a = b) := by
  show (a.toArray == b.toArray) = decide (a = b)
  rw [Bool.eq_iff_iff]
  simp
theorem ba_bne (a b : List UInt8) : ((⟨a.toArray⟩ : ByteArray) != ⟨b.toArray⟩) = decide (a ≠ b) := by
  rw [bne, ba_beq]; simp
theorem ba_len (l : List UInt8) : (⟨l.toArray⟩ : ByteArray).size = l.length := by simp [ByteArray.size]
theorem ext_n (l : List UInt8) (n : Nat) : (⟨l.toArray⟩ : ByteArray).extract 0 n = ⟨(l.take n).toArray⟩ := ba_ext (by simp)

def thresholdR (n : Int) : List UInt8 × Int := if 1 ≤ n ∧ n ≤ 6 then ([103, UInt8.ofNat n.toNat], 0) else ([], 2)
def intentKeyR (l : List UInt8) : List UInt8 × Int := if l.length ≤ 1000 then (105 :: keyL l, 0) else ([], 2)
def versionKeyR (l : List UInt8) (a b : Int) : List UInt8 × Int := if l.length ≤ 1000 ∧ mayB a b = true then (118 :: (keyL l ++ downL a b), 0) else ([], 2)
def whoseR (l : List UInt8) (c : UInt8) : List UInt8 × List UInt8 × Bool :=
  match l with
  | [] => ([], [], false)
  | d :: t => if d = c then ((takeL [] t).1, (takeL [] t).2.1, decide ((takeL [] t).2.2 = 0)) else ([], [], false)
def readIntentR (l : List UInt8) : List UInt8 × Int := if (whoseR l 105).2.2 = true ∧ (whoseR l 105).2.1 = [] then ((whoseR l 105).1, 0) else ([], 4)
def readVersionR (l : List UInt8) : List UInt8 × Int × Int × Int :=
  if (whoseR l 118).2.2 = true ∧ (takeDownL (whoseR l 118).2.1).2.2.2 = 0 ∧ (takeDownL (whoseR l 118).2.1).2.2.1 = [] then ((whoseR l 118).1, (takeDownL (whoseR l 118).2.1).1, (takeDownL (whoseR l 118).2.1).2.1, 0) else ([], 0, 0, 4)

theorem keyR_cases (l : List UInt8) : (l.length ≤ 1000 ∧ keyR l = (keyL l, 0)) ∨ (1000 < l.length ∧ keyR l = ([], 5)) := by
  unfold keyR
  by_cases h : l.length ≤ 1000
  · exact .inl ⟨h, if_pos h⟩
  · exact .inr ⟨by omega, if_neg h⟩
theorem downR_cases (a b : Int) : (mayB a b = true ∧ downR a b = (downL a b, 0)) ∨ (mayB a b = false ∧ downR a b = ([], 2)) := by
  unfold downR
  cases h : mayB a b <;> simp
theorem keyL_len (l : List UInt8) (h : l.length ≤ 1000) : (keyL l).length ≤ 2002 := by
  have := esc_length_le l
  simp [keyL]; omega

theorem downL_len (a b : Int) : (downL a b).length = 9 := downL_length a b
theorem versionKey_any (s : ByteArray) (a b : Int) (w : World) (hw : Sh w) : Calls Tryz.prog 42 #[.string s, .agg #[.int .i64 a, .int .i64 b]] w fun e w' => e = .returned (.tuple #[.string ⟨(versionKeyR s.data.toList a b).1.toArray⟩, .int .i64 (versionKeyR s.data.toList a b).2]) ∧ Gr w w' := by
  have HK := Lib.hid (fun w hw => key_all s w hw)
  have HD := Lib.hid (fun w => down_all a b w)
  have HA := Lib.hid (str_append [118] (keyL s.data.toList))
  have HB := Lib.hid (str_append (118 :: keyL s.data.toList) (downL a b))
  rcases keyR_cases s.data.toList with ⟨h1, h2⟩ | ⟨h1, h2⟩ <;> rcases downR_cases a b with ⟨g1, g2⟩ | ⟨g1, g2⟩
  · have ht : versionKeyR s.data.toList a b = (118 :: (keyL s.data.toList ++ downL a b), 0) := by unfold versionKeyR; rw [if_pos ⟨h1, g1⟩]
    have hl1 := keyL_len _ h1
    have hl2 := downL_len a b
    have hl3 : (downL a b).length ≤ 9 := by omega
    rw [ht]
    rw [h2] at HK
    rw [g2] at HD
    clear ht g1 hl2
    clear h2 g2
    go_enter Tryz.func42, Tryz.ntmps42
    go_wp2_with (first
      | (go_at_call 69; refine (HK.out _ (hw.gr (by repeat (first | (with_reducible exact Gr.refl _) | (with_reducible assumption) | (with_reducible refine Gr.alloc ?_ _) | (with_reducible refine Gr.drew ?_) | (with_reducible refine Gr.drewN ?_ _) | (with_reducible refine Gr.trans ?_ (by assumption)) | (with_reducible refine Gr.setCell ?_ (by first | exact Nat.le_refl _ | omega | (simp; done) | (simp; omega)) _))))).mono ?_; rintro e w1 ⟨rfl, hg1⟩; (have hX := hg1.blk (heap_alloc_new _ _)); obtain ⟨k_0, k_1, g_0, g_1, l_0⟩ := blk2 hX; clear hX)
      | (go_at_call 70; refine (HD.out _).mono ?_; rintro e w2 ⟨rfl, hg2⟩))
    go_ret2
    exact ⟨by rw [show (⟨(118 :: (keyL s.data.toList ++ downL a b)).toArray⟩ : ByteArray) = _ from HB.out.symm]; rw [show (⟨(118 :: keyL s.data.toList).toArray⟩ : ByteArray) = _ from HA.out.symm]; rfl, (by repeat (first | (with_reducible exact Gr.refl _) | (with_reducible assumption) | (with_reducible refine Gr.alloc ?_ _) | (with_reducible refine Gr.drew ?_) | (with_reducible refine Gr.drewN ?_ _) | (with_reducible refine Gr.trans ?_ (by assumption)) | (with_reducible refine Gr.setCell ?_ (by first | exact Nat.le_refl _ | omega | (simp; done) | (simp; omega)) _)))⟩
  all_goals
    have ht : versionKeyR s.data.toList a b = ([], 2) := by unfold versionKeyR; rw [if_neg (by rintro ⟨h, h'⟩; first | omega | (rw [g1] at h'; simp at h'))]
    rw [ht]
    rw [h2] at HK
    rw [g2] at HD
    clear ht g1
    clear h2 g2
    go_enter Tryz.func42, Tryz.ntmps42
    go_wp2_with (first
      | (go_at_call 69; refine (HK.out _ (hw.gr (by repeat (first | (with_reducible exact Gr.refl _) | (with_reducible assumption) | (with_reducible refine Gr.alloc ?_ _) | (with_reducible refine Gr.drew ?_) | (with_reducible refine Gr.drewN ?_ _) | (with_reducible refine Gr.trans ?_ (by assumption)) | (with_reducible refine Gr.setCell ?_ (by first | exact Nat.le_refl _ | omega | (simp; done) | (simp; omega)) _))))).mono ?_; rintro e w1 ⟨rfl, hg1⟩; (have hX := hg1.blk (heap_alloc_new _ _)); obtain ⟨k_0, k_1, g_0, g_1, l_0⟩ := blk2 hX; clear hX)
      | (go_at_call 70; refine (HD.out _).mono ?_; rintro e w2 ⟨rfl, hg2⟩))
    go_ret2
    exact ⟨rfl, (by repeat (first | (with_reducible exact Gr.refl _) | (with_reducible assumption) | (with_reducible refine Gr.alloc ?_ _) | (with_reducible refine Gr.drew ?_) | (with_reducible refine Gr.drewN ?_ _) | (with_reducible refine Gr.trans ?_ (by assumption)) | (with_reducible refine Gr.setCell ?_ (by first | exact Nat.le_refl _ | omega | (simp; done) | (simp; omega)) _)))⟩

theorem whose_any (s : ByteArray) (hs : s.size ≤ 140737488355328) (c : UInt8) (w : World) : Calls Tryz.prog 33 #[.string s, .string ⟨#[c]⟩] w fun e w' =>
    e = .returned (.tuple #[.string ⟨(whoseR s.data.toList c).1.toArray⟩, .string ⟨(whoseR s.data.toList c).2.1.toArray⟩, .bool (whoseR s.data.toList c).2.2]) ∧ Gr w w' := by
  have hz : (⟨#[c]⟩ : ByteArray).size = 1 := rfl
  obtain ⟨l, rfl⟩ : ∃ l : List UInt8, s = ⟨l.toArray⟩ := ⟨s.data.toList, ba_mk s⟩
  rw [ba_len] at hs
  have hsl := ba_len l
  show Calls _ _ _ _ fun e w' => e = .returned (.tuple #[.string ⟨(whoseR l c).1.toArray⟩, .string ⟨(whoseR l c).2.1.toArray⟩, .bool (whoseR l c).2.2]) ∧ Gr w w'
  cases l with
  | nil =>
    have ht : whoseR [] c = ([], [], false) := rfl
    rw [ht]
    have hsl : (⟨([] : List UInt8).toArray⟩ : ByteArray).size = 0 := rfl
    clear ht
    go_enter Tryz.func33, Tryz.ntmps33
    go_wp2
    go_ret3
    exact ⟨rfl, (by repeat (first | (with_reducible exact Gr.refl _) | (with_reducible assumption) | (with_reducible refine Gr.alloc ?_ _) | (with_reducible refine Gr.drew ?_) | (with_reducible refine Gr.drewN ?_ _) | (with_reducible refine Gr.trans ?_ (by assumption)) | (with_reducible refine Gr.setCell ?_ (by first | exact Nat.le_refl _ | omega | (simp; done) | (simp; omega)) _)))⟩
  | cons d t =>
    have hx : (⟨(d :: t).toArray⟩ : ByteArray).extract 0 1 = ⟨[d].toArray⟩ := ext_n (d :: t) 1
    rw [List.length_cons] at hsl hs
    by_cases hdc : d = c
    · subst hdc
      have hy : (⟨(d :: t).toArray⟩ : ByteArray).extract 1 (t.length + 1) = ⟨t.toArray⟩ := by
        have := ext_drop ⟨(d :: t).toArray⟩ 1
        rw [ba_len] at this
        exact this
      have ht : whoseR (d :: t) d = ((takeL [] t).1, (takeL [] t).2.1, decide ((takeL [] t).2.2 = 0)) := by simp [whoseR]
      rw [ht]
      have HT := Lib.hid (fun w => takeKey_any ⟨t.toArray⟩ (by rw [ba_len]; omega) w)
      have hne : ((⟨#[d]⟩ : ByteArray) != ⟨#[d]⟩) = false := (ba_bne [d] [d]).trans (by simp)
      clear ht
      go_enter Tryz.func33, Tryz.ntmps33
      go_wp2_with (go_at_call 64; refine (HT.out _).mono ?_; rintro e w1 ⟨rfl, hg1⟩)
      go_ret3
      exact ⟨rfl, by assumption⟩
    · have ht : whoseR (d :: t) c = ([], [], false) := by simp [whoseR, hdc]
      rw [ht]
      have hne : ((⟨#[d]⟩ : ByteArray) != ⟨#[c]⟩) = true := (ba_bne [d] [c]).trans (by simp [hdc])
      have hdc' : (d == c) = false := by simpa using hdc
      clear ht
      go_enter Tryz.func33, Tryz.ntmps33
      go_wp2
      go_ret3
      exact ⟨rfl, (by repeat (first | (with_reducible exact Gr.refl _) | (with_reducible assumption) | (with_reducible refine Gr.alloc ?_ _) | (with_reducible refine Gr.drew ?_) | (with_reducible refine Gr.drewN ?_ _) | (with_reducible refine Gr.trans ?_ (by assumption)) | (with_reducible refine Gr.setCell ?_ (by first | exact Nat.le_refl _ | omega | (simp; done) | (simp; omega)) _)))⟩

theorem numW_one : numW 1 = [1, 1] := by unfold numW numT; rw [if_pos (by decide)]; rw [show (1 : Int).toNat = 1 from rfl, numD_small (by decide) (by decide)]; rfl
theorem numW_zero : numW 0 = [0] := by unfold numW numT; rw [if_pos (by decide)]; rw [show (0 : Int).toNat = 0 from rfl, numD_zero]; rfl
theorem strW_x : strW [120] = [1, 1, 120] := by unfold strW numT; rw [if_pos (by decide)]; rw [show [(120 : UInt8)].length = 1 from rfl, numD_small (by decide) (by decide)]; rfl
theorem aw8 (w : World) : Calls Tryz.prog 14 #[.string ⟨#[1, 1, 1, 1, 120]⟩] w fun e w' => e = .returned (.tuple #[.string ⟨#[120]⟩, .bool true, .int .i64 0]) ∧ Gr w w' := by
  have := takeVersion_any ⟨#[1, 1, 1, 1, 120]⟩ (by decide) w
  rwa [show takeVerR (⟨#[1, 1, 1, 1, 120]⟩ : ByteArray).data.toList = ([120], true, 0) by decide] at this
theorem aw9 (w : World) : Calls Tryz.prog 14 #[.string ⟨#[0]⟩] w fun e w' => e = .returned (.tuple #[.string ⟨#[]⟩, .bool false, .int .i64 0]) ∧ Gr w w' := by
  have := takeVersion_any ⟨#[0]⟩ (by decide) w
  rwa [show takeVerR (⟨#[0]⟩ : ByteArray).data.toList = ([], false, 0) by decide] at this

end Go.Proofs.YtocijpeminghoaaGreatDoor
