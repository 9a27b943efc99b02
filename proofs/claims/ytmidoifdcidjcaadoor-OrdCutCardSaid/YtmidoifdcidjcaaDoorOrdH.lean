/- The walk of OrdCut. -/
import Derived.Test.YtmidoifdcidjcaaDoorOrdE
import Derived.Deep.DeepCutAuto
namespace Go.Proofs.YtmidoifdcidjcaaDoor
open Go.RowKit
set_option linter.unusedVariables false
set_option linter.unusedSimpArgs false

theorem ext_any (l : List UInt8) (n : Nat) : (⟨l.toArray⟩ : ByteArray).extract 0 n = ⟨(l.take n).toArray⟩ := ba_ext (by
  rw [Lib.extract_data]; simp)
theorem keyL_ne (l : List UInt8) : ((⟨(keyL l).toArray⟩ : ByteArray) == ⟨#[]⟩) = false := by
  show ((keyL l).toArray == #[]) = false
  simp [keyL]
theorem downL_ne (a b : Int) : ((⟨(downL a b).toArray⟩ : ByteArray) == ⟨#[]⟩) = false := by
  show ((downL a b).toArray == #[]) = false
  have := downL_length a b
  simp
  intro h
  rw [h] at this
  simp at this

set_option maxHeartbeats 4000000 in
theorem ordCut_walk (s : ByteArray) (a b : Int) (at_ : Int) (ha : -9223372036854775808 ≤ a ∧ a ≤ 9223372036854775807) (hb : -9223372036854775808 ≤ b ∧ b ≤ 9223372036854775807) (hat : -9223372036854775808 ≤ at_ ∧ at_ ≤ 9223372036854775807) (w : World) (hw : Sh w) :
    Calls Tryd.prog 10 #[.string s, .agg #[.int .i64 a, .int .i64 b], .int .i64 at_] w fun e w' => e = .returned (.bool true) ∧ Gr w w' := by
  have hmin := fun W => min_1000 s.size #[3, 3] 3 W
  have hm : min s.size 1000 ≤ s.size := Nat.min_le_left _ _
  have hex := ext_take s
  have hll : (s.data.toList.take 1000).length ≤ 1000 := by simp; omega
  obtain ⟨L, hL⟩ : ∃ L, s.data.toList.take 1000 = L := ⟨_, rfl⟩
  rw [hL] at hex hll
  clear hL
  have hmy := bring_may a b
  have S1 := Lib.hid (lawStamp_any a b ha hb)
  obtain ⟨A, hA⟩ : ∃ A, bringI a 1099511627777 = A := ⟨_, rfl⟩
  obtain ⟨B, hB⟩ : ∃ B, bringI b 1048576 = B := ⟨_, rfl⟩
  rw [hA, hB] at hmy
  rw [hA, hB] at S1
  have hk : (keyL L).length ≤ 2002 := by have := esc_length_le L; simp [keyL]; omega
  have hk2 : 2 ≤ (keyL L).length := by simp [keyL]
  have hd : (downL A B).length = 9 := downL_length A B
  have hkne := keyL_ne L
  have hdne := downL_ne A B
  have hks : (⟨(keyL L).toArray⟩ : ByteArray).size = (keyL L).length := ba_size _
  have hds : (⟨(downL A B).toArray⟩ : ByteArray).size = 9 := by rw [ba_size, hd]
  obtain ⟨K, hK⟩ : ∃ K, keyL L = K := ⟨_, rfl⟩
  rw [hK] at hk hk2
  have b1 := bring_bd at_ (n := (K.length : Int)) (by omega)
  obtain ⟨i, hi⟩ : ∃ i : Nat, bringI at_ (K.length : Int) = i := ⟨(bringI at_ (K.length : Int)).toNat, by omega⟩
  have b2 := bring_bd at_ (n := 9) (by omega)
  obtain ⟨j, hj⟩ : ∃ j : Nat, bringI at_ 9 = j := ⟨(bringI at_ 9).toNat, by omega⟩
  have hil : i < K.length := by omega
  have hjl : j < 9 := by omega
  have t1 : takeL [] (K.take i) = ([], [], 3) := by rw [← hK]; exact takeL_cutKey L i hll (by rw [hK]; omega)
  have t2 : takeDownL ((downL A B).take j) = (0, 0, [], 3) := takeDown_short _ (by simp; omega)
  have H1 := Lib.hid (fun w => takeKey_eq ⟨(K.take i).toArray⟩ (by rw [ba_size]; simp; omega) (by simpa using t1) w)
  have H2 := Lib.hid (fun w => takeDown_eq ⟨((downL A B).take j).toArray⟩ (by simpa using t2) w)
  have B1 := Lib.hid (fun w => bring_any at_ (K.length : Int) hat (by omega) w)
  have B2 := Lib.hid (fun w => bring_any at_ 9 hat (by omega) w)
  have K1 := Lib.hid (fun w hw => key_any ⟨L.toArray⟩ (by rw [ba_size]; omega) w hw)
  have hl2 : (⟨L.toArray⟩ : ByteArray).data.toList = L := by simp
  rw [hl2] at K1
  rw [hi] at B1
  rw [hj] at B2
  rw [hK] at K1 hkne hks
  have e1 := ext_any K i
  have e2 := ext_any (downL A B) j
  have q1 : i ≤ (⟨K.toArray⟩ : ByteArray).size := by rw [hks]; omega
  have q2 : j ≤ (⟨(downL A B).toArray⟩ : ByteArray).size := by rw [hds]; omega
  obtain ⟨D, hD⟩ : ∃ D, downL A B = D := ⟨_, rfl⟩
  have D1 := Lib.hid (fun w => down_yes A B w hmy)
  rw [hD] at hd hdne hds e2 q2 D1 H2
  have ke : K.isEmpty = false := by
    cases h : K with
    | nil => rw [h] at hk2; simp at hk2
    | cons _ _ => rfl
  have de : D.isEmpty = false := by
    cases h : D with
    | nil => rw [h] at hd; simp at hd
    | cons _ _ => rfl
  clear hi hj b1 b2 t1 t2 hK hD
  go_enter Tryd.func10, Tryd.ntmps10
  go_wp2_with (first
    | (go_at_call 18; refine (works_any _ (hw.gr (by repeat (first | (with_reducible exact Gr.refl _) | (with_reducible assumption) | (with_reducible refine Gr.alloc ?_ _) | (with_reducible refine Gr.drew ?_) | (with_reducible refine Gr.drewN ?_ _) | (with_reducible refine Gr.trans ?_ (by assumption)) | (with_reducible refine Gr.setCell ?_ (by first | exact Nat.le_refl _ | omega | (simp; done) | (simp; omega)) _))))).mono ?_; rintro e w1 ⟨rfl, hg1⟩; have hbk : w1.heap[w.heap.size]? = some (.cells #[.int .i64 a, .int .i64 b] 35) := hg1.blk (by repeat (first | (with_reducible assumption) | (with_reducible exact heap_alloc_new _ _) | (with_reducible refine heap_drew ?_) | (with_reducible exact heap_newn (by first | rfl | (simp; done))) | (with_reducible refine heap_alloc_mono ?_ _))); obtain ⟨k_0, k_1, g_0, g_1, l_0⟩ := blk2 hbk)
    | (go_at_call 12; refine (K1.out _ (hw.gr (by repeat (first | (with_reducible exact Gr.refl _) | (with_reducible assumption) | (with_reducible refine Gr.alloc ?_ _) | (with_reducible refine Gr.drew ?_) | (with_reducible refine Gr.drewN ?_ _) | (with_reducible refine Gr.trans ?_ (by assumption)) | (with_reducible refine Gr.setCell ?_ (by first | exact Nat.le_refl _ | omega | (simp; done) | (simp; omega)) _))))).mono ?_; rintro e w2 ⟨rfl, hg2⟩; have hbk : w2.heap[w.heap.size]? = some (.cells #[.int .i64 a, .int .i64 b] 35) := hg2.blk (by repeat (first | (with_reducible assumption) | (with_reducible exact heap_alloc_new _ _) | (with_reducible refine heap_drew ?_) | (with_reducible exact heap_newn (by first | rfl | (simp; done))) | (with_reducible refine heap_alloc_mono ?_ _))); obtain ⟨k_0, k_1, g_0, g_1, l_0⟩ := blk2 hbk)
    | (go_at_call 21; refine (S1.out _).mono ?_; rintro e w3 ⟨rfl, hg3⟩)
    | (go_at_call 22; refine (D1.out _).mono ?_; rintro e w4 ⟨rfl, hg4⟩)
    | (go_at_call 27; (first | with_reducible refine (B1.out _).mono ?_ | with_reducible refine (B2.out _).mono ?_); rintro e w7 ⟨rfl, rfl⟩)
    | (go_at_call 14; refine (H1.out _).mono ?_; rintro e w5 ⟨rfl, hg5⟩)
    | (go_at_call 25; refine (H2.out _).mono ?_; rintro e w6 ⟨rfl, hg6⟩))
  all_goals (go_ret; exact ⟨rfl, (by repeat (first | (with_reducible exact Gr.refl _) | (with_reducible assumption) | (with_reducible refine Gr.alloc ?_ _) | (with_reducible refine Gr.drew ?_) | (with_reducible refine Gr.drewN ?_ _) | (with_reducible refine Gr.trans ?_ (by assumption)) | (with_reducible refine Gr.setCell ?_ (by first | exact Nat.le_refl _ | omega | (simp; done) | (simp; omega)) _)))⟩)
end Go.Proofs.YtmidoifdcidjcaaDoor
