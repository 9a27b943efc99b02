/- What the rows stand on, part 16: CelK, CelL. Printed by bundle.py out of my texts. -/
import Derived.Test.YthgecojbggoniaaGreatDoorBe01
import Derived.Test.YthgecojbggoniaaGreatDoorBe03
import Derived.Test.YthgecojbggoniaaGreatDoorBe04
import Derived.Test.YthgecojbggoniaaGreatDoorBe14
import Derived.Test.YthgecojbggoniaaGreatDoorBe15
namespace Go.Proofs.YthgecojbggoniaaGreatDoor
open Go.RowKit
set_option maxRecDepth 100000
set_option linter.unusedVariables false
set_option linter.unusedSimpArgs false

theorem rd_bytes (w : World) (s : ByteArray) (hs : s.size ≤ 140737488355328) : Rd (Lib.bytesWorld w 5 s) (.slice (some ⟨w.heap.size, 0, none⟩) s.size (grownCap w s.size 0 5)) s.data.toList := by
  have hl : s.data.toList.length = s.size := Array.length_toList
  refine .inr ⟨w.heap.size, 0, _, by rw [hl], by rw [hl]; exact grownCap_ge _ _ _ _, grownCap_le_maxLen w _ 0 _ (by unfold maxLen; omega), by rw [Lib.bytesWorld_size]; omega, fun j hj => ?_⟩
  have := Lib.bytesWorld_cell w 5 s j (by rw [← hl]; exact hj)
  rw [Nat.zero_add, this]
  simp only [List.getD, List.getElem?_eq_getElem hj, Option.getD_some]

theorem tyU_bytes (w : World) (s : ByteArray) : TyU (Lib.bytesWorld w 5 s) (.slice (some ⟨w.heap.size, 0, none⟩) s.size (grownCap w s.size 0 5)) := fun g o n c e => by
  cases e
  exact ⟨_, _, Lib.bytesWorld_at_new w 5 s⟩
theorem Rdr.bytes (T : TypeId) (W : World) (s : ByteArray) (hs : s.size ≤ 140737488355328) {n m : Nat} (hm : m = W.heap.size) (hn : n = W.heap.size + 1) :
    Rdr T n (s.data.toList, false) ((Lib.bytesWorld W 5 s).alloc (.cells #[.slice (some ⟨m, 0, none⟩) s.size (grownCap W s.size 0 5), .bool false] T)) := by
  subst hm
  exact Rdr.new T (rd_bytes W s hs) (tyU_bytes W s) (by rw [hn, Lib.bytesWorld_size])
def stampCk (a b : Int) : Int := if mayB a b = true then 0 else 9
theorem stampCheck_ck (a b : Int) (w : World) :
    Calls Tryz.prog 61 #[.agg #[.int .i64 a, .int .i64 b]] w fun e w' => e = .returned (.int .i64 (stampCk a b)) ∧ Gr w w' := stampCheck_any a b w
theorem refStampCheck_ck (a b : Int) (w : World) :
    Calls Tryz.prog 40 #[.agg #[.int .i64 a, .int .i64 b]] w fun e w' => e = .returned (.int .i64 (stampCk a b)) ∧ Gr w w' := refStampCheck_any a b w
set_option maxHeartbeats 1000000 in
theorem takeVersion_any (s : ByteArray) (hs : s.size ≤ 140737488351232) (w : World) :
    Calls Tryz.prog 92 #[.string s] w fun e w' => e = .returned (.tuple #[.string ⟨(takeVerR s.data.toList).1.toArray⟩, .bool (takeVerR s.data.toList).2.1, .int .i64 (takeVerR s.data.toList).2.2]) ∧ Gr w w' := by
  have hl : s.data.toList.length = s.size := Array.length_toList
  have hcv := fun (w : World) => Lib.run_convert_string_bytes (P := Tryz.prog) w 9 133 5 s Tryz.underlying9 Tryz.underlying133 Tryz.underlying5
  have hgr := bytesWorld_gr w 5 s
  have hsz := Lib.bytesWorld_size w 5 s
  have hn1 : (nextF (s.data.toList, false)).1.length ≤ s.size := by rw [← hl]; exact nextF_length _
  have hn2 : (nextS (nextF (s.data.toList, false))).1.length ≤ s.size := Nat.le_trans (nextS_length _) hn1
  have HU : Hid (takeVerR s.data.toList = if offE (if valF (s.data.toList, false) = true then nextS (nextF (s.data.toList, false)) else nextF (s.data.toList, false)) 0 = 0 then ((if valF (s.data.toList, false) = true then valS (nextF (s.data.toList, false)) else []), valF (s.data.toList, false), 0) else ([], false, 4)) := Lib.hid rfl
  cases hv : valF (s.data.toList, false) with
  | false =>
    rcases offE_cases (nextF (s.data.toList, false)) 0 with h0 | h0
    all_goals
      have HV := Lib.hid hv
      have HO := Lib.hid h0
      clear h0 hv
      go_enter Tryz.func92, Tryz.ntmps92
      go_wp2_with (first
        | (go_at_call 111; refine (rflag (s := (s.data.toList, false)) (by exact Rdr.bytes _ _ s (by omega) (by simp) (by simp)) (by simp; omega)).mono ?_; rintro e w1 ⟨rfl, hr1, hF1⟩; have hg1 : Gr w w1 := Fx.toGr (hgr.alloc _) hF1 (by omega); (have HR1 := Lib.hid hr1); clear hr1; have hv := HV.out)
        | (go_at_call 107; refine (rstr HR1.out (by omega)).mono ?_; rintro e w2 ⟨rfl, hr2, hF2⟩; have hg2 : Gr w w2 := Fx.toGr hg1 hF2 (by omega); (have HR2 := Lib.hid hr2); clear hr2)
        | (go_at_call 112; (first | (with_reducible refine (rdone rfl HR2.out 0 (by omega)).mono ?_) | (with_reducible refine (rdone rfl HR1.out 0 (by omega)).mono ?_)); rintro e w3 ⟨rfl, rfl⟩; have ho := HO.out))
      go_ret3
      exact ⟨by rw [HU.out]; simp [HO.out, HV.out], by assumption⟩
  | true =>
    rcases offE_cases (nextS (nextF (s.data.toList, false))) 0 with h0 | h0
    all_goals
      have HV := Lib.hid hv
      have HO := Lib.hid h0
      clear h0 hv
      go_enter Tryz.func92, Tryz.ntmps92
      go_wp2_with (first
        | (go_at_call 111; refine (rflag (s := (s.data.toList, false)) (by exact Rdr.bytes _ _ s (by omega) (by simp) (by simp)) (by simp; omega)).mono ?_; rintro e w1 ⟨rfl, hr1, hF1⟩; have hg1 : Gr w w1 := Fx.toGr (hgr.alloc _) hF1 (by omega); (have HR1 := Lib.hid hr1); clear hr1; have hv := HV.out)
        | (go_at_call 107; refine (rstr HR1.out (by omega)).mono ?_; rintro e w2 ⟨rfl, hr2, hF2⟩; have hg2 : Gr w w2 := Fx.toGr hg1 hF2 (by omega); (have HR2 := Lib.hid hr2); clear hr2)
        | (go_at_call 112; (first | (with_reducible refine (rdone rfl HR2.out 0 (by omega)).mono ?_) | (with_reducible refine (rdone rfl HR1.out 0 (by omega)).mono ?_)); rintro e w3 ⟨rfl, rfl⟩; have ho := HO.out))
      go_ret3
      exact ⟨by rw [HU.out]; simp [HO.out, HV.out], by assumption⟩

end Go.Proofs.YthgecojbggoniaaGreatDoor
namespace Go.Proofs.YthgecojbggoniaaGreatDoor
open Go.RowKit
set_option maxRecDepth 100000
set_option linter.unusedVariables false
set_option linter.unusedSimpArgs false

theorem key_all (s : ByteArray) (w : World) (hw : Sh w) :
    Calls Tryz.prog 105 #[.string s] w fun e w' => e = .returned (.tuple #[.string ⟨(keyR s.data.toList).1.toArray⟩, .int .i64 (keyR s.data.toList).2]) ∧ Gr w w' := by
  by_cases hs : s.size ≤ 1000
  · rw [show keyR s.data.toList = (keyL s.data.toList, 0) by unfold keyR; rw [if_pos (by simpa using hs)]]
    exact key_any s hs w hw
  · rw [show keyR s.data.toList = ([], 5) by unfold keyR; rw [if_neg (by simpa using hs)]]
    refine (key_long s (by omega) w).mono ?_
    rintro e w' ⟨rfl, rfl⟩
    exact ⟨rfl, Gr.refl _⟩
theorem down_all (a b : Int) (w : World) :
    Calls Tryz.prog 114 #[.agg #[.int .i64 a, .int .i64 b]] w fun e w' => e = .returned (.tuple #[.string ⟨(downR a b).1.toArray⟩, .int .i64 (downR a b).2]) ∧ Gr w w' := by
  by_cases h : mayB a b = true
  · rw [show downR a b = (downL a b, 0) by unfold downR; rw [if_pos h]]
    exact down_yes a b w h
  · rw [show downR a b = ([], 2) by unfold downR; rw [if_neg h]]
    exact down_no a b w (by simpa using h)

theorem ba_beq (a b : List UInt8) : ((⟨a.toArray⟩ : ByteArray) == ⟨b.toArray⟩) = decide (a = b) := by
  show (a.toArray == b.toArray) = decide (a = b)
  rw [Bool.eq_iff_iff]
  simp
theorem ba_bne (a b : List UInt8) : ((⟨a.toArray⟩ : ByteArray) != ⟨b.toArray⟩) = decide (a ≠ b) := by
  rw [bne, ba_beq]; simp
theorem ba_len (l : List UInt8) : (⟨l.toArray⟩ : ByteArray).size = l.length := by simp [ByteArray.size]
theorem ext_n (l : List UInt8) (n : Nat) : (⟨l.toArray⟩ : ByteArray).extract 0 n = ⟨(l.take n).toArray⟩ := ba_ext (by simp)

def intentKeyR (l : List UInt8) : List UInt8 × Int := if l.length ≤ 1000 then (105 :: keyL l, 0) else ([], 2)
def versionKeyR (l : List UInt8) (a b : Int) : List UInt8 × Int := if l.length ≤ 1000 ∧ mayB a b = true then (118 :: (keyL l ++ downL a b), 0) else ([], 2)
def whoseR (l : List UInt8) (c : UInt8) : List UInt8 × List UInt8 × Bool :=
  match l with
  | [] => ([], [], false)
  | d :: t => if d = c then ((takeL [] t).1, (takeL [] t).2.1, decide ((takeL [] t).2.2 = 0)) else ([], [], false)
def readVersionR (l : List UInt8) : List UInt8 × Int × Int × Int :=
  if (whoseR l 118).2.2 = true ∧ (takeDownL (whoseR l 118).2.1).2.2.2 = 0 ∧ (takeDownL (whoseR l 118).2.1).2.2.1 = [] then ((whoseR l 118).1, (takeDownL (whoseR l 118).2.1).1, (takeDownL (whoseR l 118).2.1).2.1, 0) else ([], 0, 0, 4)

theorem keyR_cases (l : List UInt8) : (l.length ≤ 1000 ∧ keyR l = (keyL l, 0)) ∨ (1000 < l.length ∧ keyR l = ([], 5)) := by
  unfold keyR
  by_cases h : l.length ≤ 1000
  · exact .inl ⟨h, if_pos h⟩
  · exact .inr ⟨by omega, if_neg h⟩
theorem downR_cases (a b : Int) : (mayB a b = true ∧ downR a b = (downL a b, 0)) ∨ (mayB a b = false ∧ downR a b = ([], 2)) := by
  unfold downR
  cases h : mayB a b <;> simp
theorem keyL_len (l : List UInt8) (h : l.length ≤ 1000) : (keyL l).length ≤ 2002 := by
  have := esc_length_le l
  simp [keyL]; omega

theorem intentKey_any (s : ByteArray) (w : World) (hw : Sh w) : Calls Tryz.prog 88 #[.string s] w fun e w' => e = .returned (.tuple #[.string ⟨(intentKeyR s.data.toList).1.toArray⟩, .int .i64 (intentKeyR s.data.toList).2]) ∧ Gr w w' := by
  have HK := Lib.hid (key_all s w hw)
  rcases keyR_cases s.data.toList with ⟨h1, h2⟩ | ⟨h1, h2⟩
  · have ht : intentKeyR s.data.toList = (105 :: keyL s.data.toList, 0) := by unfold intentKeyR; rw [if_pos h1]
    have hlen := keyL_len _ h1
    rw [ht]
    rw [h2] at HK
    clear ht h2
    have hap := str_append [105] (keyL s.data.toList)
    have HA := Lib.hid hap
    clear hap
    go_enter Tryz.func88, Tryz.ntmps88
    go_wp2_with (go_at_call 105; refine HK.out.mono ?_; rintro e w1 ⟨rfl, hg1⟩)
    go_ret2
    exact ⟨by rw [show (⟨(105 :: keyL s.data.toList).toArray⟩ : ByteArray) = _ from HA.out.symm]; rfl, (by repeat (first | (with_reducible exact Gr.refl _) | (with_reducible assumption) | (with_reducible refine Gr.alloc ?_ _) | (with_reducible refine Gr.drew ?_) | (with_reducible refine Gr.drewN ?_ _) | (with_reducible refine Gr.trans ?_ (by assumption)) | (with_reducible refine Gr.setCell ?_ (by first | exact Nat.le_refl _ | omega | (simp; done) | (simp; omega)) _)))⟩
  · have ht : intentKeyR s.data.toList = ([], 2) := by unfold intentKeyR; rw [if_neg (by omega)]
    rw [ht]
    rw [h2] at HK
    clear ht h2
    go_enter Tryz.func88, Tryz.ntmps88
    go_wp2_with (go_at_call 105; refine HK.out.mono ?_; rintro e w1 ⟨rfl, hg1⟩)
    go_ret2
    exact ⟨rfl, (by repeat (first | (with_reducible exact Gr.refl _) | (with_reducible assumption) | (with_reducible refine Gr.alloc ?_ _) | (with_reducible refine Gr.drew ?_) | (with_reducible refine Gr.drewN ?_ _) | (with_reducible refine Gr.trans ?_ (by assumption)) | (with_reducible refine Gr.setCell ?_ (by first | exact Nat.le_refl _ | omega | (simp; done) | (simp; omega)) _)))⟩

theorem downL_len (a b : Int) : (downL a b).length = 9 := downL_length a b
theorem versionKey_any (s : ByteArray) (a b : Int) (w : World) (hw : Sh w) : Calls Tryz.prog 90 #[.string s, .agg #[.int .i64 a, .int .i64 b]] w fun e w' => e = .returned (.tuple #[.string ⟨(versionKeyR s.data.toList a b).1.toArray⟩, .int .i64 (versionKeyR s.data.toList a b).2]) ∧ Gr w w' := by
  have HK := Lib.hid (fun w hw => key_all s w hw)
  have HD := Lib.hid (fun w => down_all a b w)
  have HA := Lib.hid (str_append [118] (keyL s.data.toList))
  have HB := Lib.hid (str_append (118 :: keyL s.data.toList) (downL a b))
  rcases keyR_cases s.data.toList with ⟨h1, h2⟩ | ⟨h1, h2⟩ <;> rcases downR_cases a b with ⟨g1, g2⟩ | ⟨g1, g2⟩
  · have ht : versionKeyR s.data.toList a b = (118 :: (keyL s.data.toList ++ downL a b), 0) := by unfold versionKeyR; rw [if_pos ⟨h1, g1⟩]
    have hl1 := keyL_len _ h1
    have hl2 := downL_len a b
    have hl3 : (downL a b).length ≤ 9 := by omega
    rw [ht]
    rw [h2] at HK
    rw [g2] at HD
    clear ht g1 hl2
    clear h2 g2
    go_enter Tryz.func90, Tryz.ntmps90
    go_wp2_with (first
      | (go_at_call 105; refine (HK.out _ (hw.gr (by repeat (first | (with_reducible exact Gr.refl _) | (with_reducible assumption) | (with_reducible refine Gr.alloc ?_ _) | (with_reducible refine Gr.drew ?_) | (with_reducible refine Gr.drewN ?_ _) | (with_reducible refine Gr.trans ?_ (by assumption)) | (with_reducible refine Gr.setCell ?_ (by first | exact Nat.le_refl _ | omega | (simp; done) | (simp; omega)) _))))).mono ?_; rintro e w1 ⟨rfl, hg1⟩; (have hX := hg1.blk (heap_alloc_new _ _)); obtain ⟨k_0, k_1, g_0, g_1, l_0⟩ := blk2 hX; clear hX)
      | (go_at_call 114; refine (HD.out _).mono ?_; rintro e w2 ⟨rfl, hg2⟩))
    go_ret2
    exact ⟨by rw [show (⟨(118 :: (keyL s.data.toList ++ downL a b)).toArray⟩ : ByteArray) = _ from HB.out.symm]; rw [show (⟨(118 :: keyL s.data.toList).toArray⟩ : ByteArray) = _ from HA.out.symm]; rfl, (by repeat (first | (with_reducible exact Gr.refl _) | (with_reducible assumption) | (with_reducible refine Gr.alloc ?_ _) | (with_reducible refine Gr.drew ?_) | (with_reducible refine Gr.drewN ?_ _) | (with_reducible refine Gr.trans ?_ (by assumption)) | (with_reducible refine Gr.setCell ?_ (by first | exact Nat.le_refl _ | omega | (simp; done) | (simp; omega)) _)))⟩
  all_goals
    have ht : versionKeyR s.data.toList a b = ([], 2) := by unfold versionKeyR; rw [if_neg (by rintro ⟨h, h'⟩; first | omega | (rw [g1] at h'; simp at h'))]
    rw [ht]
    rw [h2] at HK
    rw [g2] at HD
    clear ht g1
    clear h2 g2
    go_enter Tryz.func90, Tryz.ntmps90
    go_wp2_with (first
      | (go_at_call 105; refine (HK.out _ (hw.gr (by repeat (first | (with_reducible exact Gr.refl _) | (with_reducible assumption) | (with_reducible refine Gr.alloc ?_ _) | (with_reducible refine Gr.drew ?_) | (with_reducible refine Gr.drewN ?_ _) | (with_reducible refine Gr.trans ?_ (by assumption)) | (with_reducible refine Gr.setCell ?_ (by first | exact Nat.le_refl _ | omega | (simp; done) | (simp; omega)) _))))).mono ?_; rintro e w1 ⟨rfl, hg1⟩; (have hX := hg1.blk (heap_alloc_new _ _)); obtain ⟨k_0, k_1, g_0, g_1, l_0⟩ := blk2 hX; clear hX)
      | (go_at_call 114; refine (HD.out _).mono ?_; rintro e w2 ⟨rfl, hg2⟩))
    go_ret2
    exact ⟨rfl, (by repeat (first | (with_reducible exact Gr.refl _) | (with_reducible assumption) | (with_reducible refine Gr.alloc ?_ _) | (with_reducible refine Gr.drew ?_) | (with_reducible refine Gr.drewN ?_ _) | (with_reducible refine Gr.trans ?_ (by assumption)) | (with_reducible refine Gr.setCell ?_ (by first | exact Nat.le_refl _ | omega | (simp; done) | (simp; omega)) _)))⟩

theorem whose_any (s : ByteArray) (hs : s.size ≤ 140737488355328) (c : UInt8) (w : World) : Calls Tryz.prog 115 #[.string s, .string ⟨#[c]⟩] w fun e w' =>
    e = .returned (.tuple #[.string ⟨(whoseR s.data.toList c).1.toArray⟩, .string ⟨(whoseR s.data.toList c).2.1.toArray⟩, .bool (whoseR s.data.toList c).2.2]) ∧ Gr w w' := by
  have hz : (⟨#[c]⟩ : ByteArray).size = 1 := rfl
  obtain ⟨l, rfl⟩ : ∃ l : List UInt8, s = ⟨l.toArray⟩ := ⟨s.data.toList, ba_mk s⟩
  rw [ba_len] at hs
  have hsl := ba_len l
  show Calls _ _ _ _ fun e w' => e = .returned (.tuple #[.string ⟨(whoseR l c).1.toArray⟩, .string ⟨(whoseR l c).2.1.toArray⟩, .bool (whoseR l c).2.2]) ∧ Gr w w'
  cases l with
  | nil =>
    have ht : whoseR [] c = ([], [], false) := rfl
    rw [ht]
    have hsl : (⟨([] : List UInt8).toArray⟩ : ByteArray).size = 0 := rfl
    clear ht
    go_enter Tryz.func115, Tryz.ntmps115
    go_wp2
    go_ret3
    exact ⟨rfl, (by repeat (first | (with_reducible exact Gr.refl _) | (with_reducible assumption) | (with_reducible refine Gr.alloc ?_ _) | (with_reducible refine Gr.drew ?_) | (with_reducible refine Gr.drewN ?_ _) | (with_reducible refine Gr.trans ?_ (by assumption)) | (with_reducible refine Gr.setCell ?_ (by first | exact Nat.le_refl _ | omega | (simp; done) | (simp; omega)) _)))⟩
  | cons d t =>
    have hx : (⟨(d :: t).toArray⟩ : ByteArray).extract 0 1 = ⟨[d].toArray⟩ := ext_n (d :: t) 1
    rw [List.length_cons] at hsl hs
    by_cases hdc : d = c
    · subst hdc
      have hy : (⟨(d :: t).toArray⟩ : ByteArray).extract 1 (t.length + 1) = ⟨t.toArray⟩ := by
        have := ext_drop ⟨(d :: t).toArray⟩ 1
        rw [ba_len] at this
        exact this
      have ht : whoseR (d :: t) d = ((takeL [] t).1, (takeL [] t).2.1, decide ((takeL [] t).2.2 = 0)) := by simp [whoseR]
      rw [ht]
      have HT := Lib.hid (fun w => takeKey_any ⟨t.toArray⟩ (by rw [ba_len]; omega) w)
      have hne : ((⟨#[d]⟩ : ByteArray) != ⟨#[d]⟩) = false := (ba_bne [d] [d]).trans (by simp)
      clear ht
      go_enter Tryz.func115, Tryz.ntmps115
      go_wp2_with (go_at_call 129; refine (HT.out _).mono ?_; rintro e w1 ⟨rfl, hg1⟩)
      go_ret3
      exact ⟨rfl, by assumption⟩
    · have ht : whoseR (d :: t) c = ([], [], false) := by simp [whoseR, hdc]
      rw [ht]
      have hne : ((⟨#[d]⟩ : ByteArray) != ⟨#[c]⟩) = true := (ba_bne [d] [c]).trans (by simp [hdc])
      have hdc' : (d == c) = false := by simpa using hdc
      clear ht
      go_enter Tryz.func115, Tryz.ntmps115
      go_wp2
      go_ret3
      exact ⟨rfl, (by repeat (first | (with_reducible exact Gr.refl _) | (with_reducible assumption) | (with_reducible refine Gr.alloc ?_ _) | (with_reducible refine Gr.drew ?_) | (with_reducible refine Gr.drewN ?_ _) | (with_reducible refine Gr.trans ?_ (by assumption)) | (with_reducible refine Gr.setCell ?_ (by first | exact Nat.le_refl _ | omega | (simp; done) | (simp; omega)) _)))⟩

end Go.Proofs.YthgecojbggoniaaGreatDoor
