/- What the rows stand on, part 04: OrdC. Printed by bundle.py out of my texts. -/
import Derived.Test.YthgecojbggoniaaGreatDoorBe01
import Derived.Test.YthgecojbggoniaaGreatDoorBe03
namespace Go.Proofs.YthgecojbggoniaaGreatDoor
open Go.RowKit
set_option maxRecDepth 100000
set_option linter.unusedVariables false
set_option linter.unusedSimpArgs false

theorem take_snoc2 (s : ByteArray) (k : Nat) (h : k < s.size) : s.data.toList.take (k + 1) = s.data.toList.take k ++ [s[k]] := by
  rw [List.take_succ_eq_append_getElem (by simpa using h)]; rfl
theorem u8_zero {c : UInt8} (h : ((c.toNat : Int) == 0) = true) : c = 0 := by
  have : c.toNat = 0 := by simpa using h
  exact UInt8.toNat_inj.1 this
theorem u8_nonzero {c : UInt8} (h : ((c.toNat : Int) == 0) = false) : c ≠ 0 := by
  intro e; subst e; simp at h
theorem u8_ne0 {c : UInt8} (h : c ≠ 0) : ((c.toNat : Int) == 0) = false := by
  rw [beq_eq_false_iff_ne]; intro e; exact h (UInt8.toNat_inj.1 (by simpa using e))
theorem u8_ne1 {c : UInt8} (h : c ≠ 1) : ((c.toNat : Int) != 1) = true := by
  rw [bne_iff_ne]; intro e; exact h (UInt8.toNat_inj.1 (by simp; omega))
theorem esc_zero (l : List UInt8) (c : UInt8) (h : c = 0) : nums (esc (l ++ [c])) = nums (esc l) ++ [(c.toNat : Int)] ++ [1] := by
  subst h; simp [esc_append, esc, nums]
theorem esc_nonzero (l : List UInt8) (c : UInt8) (h : c ≠ 0) : nums (esc (l ++ [c])) = nums (esc l) ++ [(c.toNat : Int)] := by
  simp [esc_append, esc, nums, h]
theorem key_str (l : List UInt8) : strOfNums (nums (esc l) ++ [0, 0]) = ⟨(keyL l).toArray⟩ := by
  rw [show nums (esc l) ++ [0, 0] = nums (keyL l) by simp [keyL, nums], strOfNums_nums]

theorem key_long (s : ByteArray) (hs : 1000 < s.size) (w : World) :
    Calls Tryz.prog 105 #[.string s] w fun e w' => e = .returned (.tuple #[.string ⟨#[]⟩, .int .i64 5]) ∧ w = w' := by
  go_enter Tryz.func105, Tryz.ntmps105
  go_wp2
  go_ret2
  exact ⟨rfl, rfl⟩

theorem key_any (s : ByteArray) (hs : s.size ≤ 1000) (w : World) (hw : Sh w) :
    Calls Tryz.prog 105 #[.string s] w fun e w' => e = .returned (.tuple #[.string ⟨(keyL s.data.toList).toArray⟩, .int .i64 0]) ∧ Gr w w' := by
  have hrep := Tryz.strings_ReplaceAll_shaped s ⟨#[0]⟩ ⟨#[0, 1]⟩ w hw.s (by omega) (by decide) (by rw [countB_zero]; have := List.count_le_length (a := (0 : UInt8)) (l := s.data.toList); rw [show (⟨#[0, 1]⟩ : ByteArray).size = 2 from rfl]; simp at this ⊢; omega)
  have hl2 : (esc s.data.toList).length ≤ 2000 := by have := esc_length_le s.data.toList; simp at this; omega
  have e : Lib.replaceAll s.data.toList [0] [0, 1] = esc s.data.toList := replaceAll_esc _
  go_enter Tryz.func105, Tryz.ntmps105
  go_wp2_with (go_at_call 122; refine hrep.mono ?_; rintro e w1 ⟨rfl, hg⟩)
  go_ret2
  exact ⟨by rw [show (⟨#[0, 0]⟩ : ByteArray) = ⟨[0, 0].toArray⟩ from rfl, str_append]; rfl, Gr.of hg⟩

theorem refKey_long (s : ByteArray) (hs : 1000 < s.size) (w : World) :
    Calls Tryz.prog 75 #[.string s] w fun e w' => e = .returned (.tuple #[.string ⟨#[]⟩, .int .i64 5]) ∧ w = w' := by
  go_enter Tryz.func75, Tryz.ntmps75
  go_wp2
  go_ret2
  exact ⟨rfl, rfl⟩

theorem refKey_any (s : ByteArray) (hs : s.size ≤ 1000) (w : World) :
    Calls Tryz.prog 75 #[.string s] w fun e w' => e = .returned (.tuple #[.string ⟨(keyL s.data.toList).toArray⟩, .int .i64 0]) ∧ Gr w w' := by
  go_enter Tryz.func75, Tryz.ntmps75
  go_wp2
  go_loopw [4, 5] (fun v i wr => ∃ k : Nat, k ≤ s.size ∧ i = .int .i64 k ∧ wr.ownsRow w.heap.size 5 1 v (nums (esc (s.data.toList.take k))).length ((nums (esc (s.data.toList.take k))).map (Value.int .u8)) ∧ Gr w wr)
    (fun _ i _ => s.size - (intOf i).toNat)
  case atStart => exact ⟨0, Nat.zero_le _, rfl, World.ownsRow_nil _ _ _ _, Gr.refl _⟩
  case round =>
    obtain ⟨k, hk, rfl, hown, hg⟩ := hrel
    by_cases hlt : k < s.size
    · have hlen : (nums (esc (s.data.toList.take k))).length ≤ 2000 := by
        have := esc_length_le (s.data.toList.take k)
        rw [nums_length]; simp at this ⊢; omega
      go_wp2_with (first
        | (at_builtin; refine app_bytes hg (by rfl) (.tmp 15) (.tmp 19) (by rfl) (nums (esc (s.data.toList.take k))) [(s[k].toNat : Int)] (by rfl) (by exact hown) (by rfl) (by rfl) (by rfl) (by simp; omega) ?_; intro v1 w1 hown1 hg1)
        | (at_builtin; refine app_bytes hg1 (by rfl) (.tmp 25) (.tmp 26) (by rfl) _ [1] (by rfl) (by exact hown1) (by rfl) (by rfl) (by rfl) (by simp; omega) ?_; intro v2 w2 hown2 hg2))
      · go_roundw
        case rel => exact ⟨k + 1, by omega, by go_num, by rw [take_snoc2 s k hlt, esc_zero _ _ (u8_zero ‹_›)]; exact hown2, hg2⟩
        case measure => simp [intOf]; omega
      · go_roundw
        case rel => exact ⟨k + 1, by omega, by go_num, by rw [take_snoc2 s k hlt, esc_nonzero _ _ (u8_nonzero ‹_›)]; exact hown1, hg1⟩
        case measure => simp [intOf]; omega
    · have e : k = s.size := by omega
      subst e
      rw [List.take_of_length_le (by simp)] at hown
      have hlen : (nums (esc s.data.toList)).length ≤ 2000 := by
        have := esc_length_le s.data.toList
        rw [nums_length]; simp at this ⊢; omega
      go_wp2_with (at_builtin; refine app_bytes hg (by rfl) (.tmp 28) (.tmp 29) (by rfl) _ [0, 0] (by rfl) (by exact hown) (by rfl) (by rfl) (by rfl) (by simp; omega) ?_; intro v3 w3 hown3 hg3; have hcv := conv_own _ hown3)
      go_ret2
      exact ⟨by rw [key_str]; rfl, hg3⟩

theorem drop_cons2 (s : ByteArray) (k : Nat) (h : k < s.size) : s.data.toList.drop k = s[k] :: s.data.toList.drop (k + 1) := by
  rw [List.drop_eq_getElem_cons (by simpa using h)]; rfl

theorem takeKey_any (s : ByteArray) (hs : s.size ≤ 140737488355328) (w : World) :
    Calls Tryz.prog 129 #[.string s] w fun e w' =>
      e = .returned (.tuple #[.string ⟨(takeL [] s.data.toList).1.toArray⟩, .string ⟨(takeL [] s.data.toList).2.1.toArray⟩, .int .i64 (takeL [] s.data.toList).2.2]) ∧ Gr w w' := by
  go_enter Tryz.func129, Tryz.ntmps129
  go_wp2
  go_step3
  go_wp2
  go_step3
  go_wp2
  go_loopw [5, 6] (fun v i wr => ∃ (k : Nat) (out : List UInt8), k ≤ s.size ∧ i = .int .i64 k ∧ out.length ≤ 1000 ∧ Hid (takeL out (s.data.toList.drop k) = takeL [] s.data.toList) ∧
      wr.ownsRow w.heap.size 5 1 v (nums out).length ((nums out).map (Value.int .u8)) ∧ Gr w wr)
    (fun _ i _ => s.size - (intOf i).toNat)
  case atStart => exact ⟨0, [], Nat.zero_le _, rfl, by simp, by exact rfl, World.ownsRow_nil _ _ _ _, Gr.refl _⟩
  case round =>
    obtain ⟨k, out, hk, rfl, ho, HT, hown, hg⟩ := hrel
    have hlen : (nums out).length ≤ 1000 := by rw [nums_length]; exact ho
    have hlv := len_own (t := 133) (ty := 3) Tryz.underlying133 hown
    rw [nums_length] at hlv
    by_cases hlt : k < s.size
    · have hd := drop_cons2 s k hlt
      by_cases hc : s[k] = 0
      · have hcb : ((s[k].toNat : Int) == 0) = true := by rw [hc]; rfl
        by_cases hlt2 : k + 1 < s.size
        · have hd2 := drop_cons2 s (k + 1) hlt2
          rw [hd2] at hd
          by_cases hd0 : s[k + 1] = 0
          · have hdb : ((s[k + 1].toNat : Int) == 0) = true := by rw [hd0]; rfl
            have HF := Lib.hid ((takeL_stop out (s.data.toList.drop (k + 2)) _ _ hc hd0).symm.trans ((congrArg (takeL out) hd).symm.trans HT.out)).symm
            have hcv := conv_own (W := wr.drew) _ hown.drew
            rw [strOfNums_nums] at hcv
            have hex := ext_drop s (k + 1 + 1)
            clear hd hd2 hc hd0
            go_wp2
            go_region
            all_goals go_wp2
            all_goals rw [Exit.noGoto_ret]
            all_goals go_ret3
            all_goals exact ⟨by rw [HF.out]; show Ending.returned (.tuple #[.string ⟨out.toArray⟩, .string (s.extract (k + 1 + 1) s.size), .int .i64 0]) = _; rw [hex], hg.drew⟩
          · have hdb : ((s[k + 1].toNat : Int) == 0) = false := u8_ne0 hd0
            by_cases hd1 : s[k + 1] = 1
            · have hdb1 : ((s[k + 1].toNat : Int) != 1) = false := by rw [hd1]; rfl
              by_cases hl : out.length = 1000
              · have HF := Lib.hid ((takeL_lim1 out (s.data.toList.drop (k + 2)) _ _ hc hd1 hl).symm.trans ((congrArg (takeL out) hd).symm.trans HT.out)).symm
                have hlb : ((out.length : Int) == 1000) = true := by rw [hl]; rfl
                clear hd hd2 hc hd0 hd1 hl
                go_wp2
                rw [Exit.noGoto_ret]
                go_ret3
                exact ⟨by rw [HF.out]; rfl, hg⟩
              · have HF := Lib.hid ((takeL_go1 out (s.data.toList.drop (k + 2)) _ _ hc hd1 hl).symm.trans ((congrArg (takeL out) hd).symm.trans HT.out))
                have hlb : ((out.length : Int) == 1000) = false := by rw [beq_eq_false_iff_ne]; omega
                have e0 : (s[k].toNat : Int) = 0 := by rw [hc]; rfl
                have E0 := Lib.hid e0
                clear hd hd2 hc hd0 hd1 e0
                go_wp2_with (at_builtin; refine app_bytes hg (by rfl) (.tmp 45) (.tmp 47) (by rfl) (nums out) [(s[k].toNat : Int)] (by rfl) (by exact hown) (by rfl) (by rfl) (by rfl) (by simp; omega) ?_; intro v1 w1 hown1 hg1; clear hlv)
                go_roundw
                case rel => exact ⟨k + 2, out ++ [0], by omega, by go_num, by simp; omega, HF, by rw [nums_append, show nums [0] = [(s[k].toNat : Int)] by rw [E0.out]; rfl]; exact hown1, hg1⟩
                case measure => simp [intOf]; omega
            · have hdb1 : ((s[k + 1].toNat : Int) != 1) = true := u8_ne1 hd1
              have HF := Lib.hid ((takeL_bad out (s.data.toList.drop (k + 2)) _ _ hc hd0 hd1).symm.trans ((congrArg (takeL out) hd).symm.trans HT.out)).symm
              clear hd hd2 hc hd0 hd1
              go_wp2
              rw [Exit.noGoto_ret]
              go_ret3
              exact ⟨by rw [HF.out]; rfl, hg⟩
        · have hz : k + 1 = s.size := by omega
          have hd2 : s.data.toList.drop (k + 1) = [] := List.drop_eq_nil_of_le (by simp; omega)
          rw [hd2] at hd
          have HF := Lib.hid ((takeL_end out _ hc).symm.trans ((congrArg (takeL out) hd).symm.trans HT.out)).symm
          have hzb : ((k : Int) + 1 == s.size) = true := by rw [beq_iff_eq]; omega
          clear hd hd2 hc hz
          go_wp2
          rw [Exit.noGoto_ret]
          go_ret3
          exact ⟨by rw [HF.out]; rfl, hg⟩
      · have hcb : ((s[k].toNat : Int) == 0) = false := u8_ne0 hc
        by_cases hl : out.length = 1000
        · have HF := Lib.hid ((takeL_lim out (s.data.toList.drop (k + 1)) _ hc hl).symm.trans ((congrArg (takeL out) hd).symm.trans HT.out)).symm
          have hlb : ((out.length : Int) == 1000) = true := by rw [hl]; rfl
          clear hd hc hl
          go_wp2
          rw [Exit.noGoto_ret]
          go_ret3
          exact ⟨by rw [HF.out]; rfl, hg⟩
        · have HF := Lib.hid ((takeL_go out (s.data.toList.drop (k + 1)) _ hc hl).symm.trans ((congrArg (takeL out) hd).symm.trans HT.out))
          have hlb : ((out.length : Int) == 1000) = false := by rw [beq_eq_false_iff_ne]; omega
          clear hd hc
          go_wp2_with (at_builtin; refine app_bytes hg (by rfl) (.tmp 45) (.tmp 47) (by rfl) (nums out) [(s[k].toNat : Int)] (by rfl) (by exact hown) (by rfl) (by rfl) (by rfl) (by simp; omega) ?_; intro v1 w1 hown1 hg1; clear hlv)
          go_roundw
          case rel => exact ⟨k + 1, out ++ [s[k]], by omega, by go_num, by simp; omega, HF, by rw [nums_append]; exact hown1, hg1⟩
          case measure => simp [intOf]; omega
    · have hd : s.data.toList.drop k = [] := List.drop_eq_nil_of_le (by simp; omega)
      have HF := Lib.hid ((takeL_nil out).symm.trans ((congrArg (takeL out) hd).symm.trans HT.out)).symm
      clear hd
      go_wp2
      rw [Exit.noGoto_ret]
      go_ret3
      exact ⟨by rw [HF.out]; rfl, hg⟩

end Go.Proofs.YthgecojbggoniaaGreatDoor
