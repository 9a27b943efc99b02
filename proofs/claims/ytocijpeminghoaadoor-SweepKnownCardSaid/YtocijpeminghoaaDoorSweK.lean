/- SweepKnown: the walk. -/
import Derived.Test.YtocijpeminghoaaDoorLdE
namespace Go.Proofs.YtocijpeminghoaaDoor
open Go.RowKit
set_option maxRecDepth 100000
set_option linter.unusedVariables false
set_option linter.unusedSimpArgs false
set_option linter.unnecessarySimpa false

def zK : ByteArray := ⟨(Lib.repeatL [122] 34).toArray⟩
theorem k5 : (swFold ⟨#[97]⟩ ⟨#[97, 0]⟩ 1099511627776 0 (betweenR vK wK chapR)).out.length = 3 := by kernel_rfl
theorem k6 : (swFold ⟨#[97, 97]⟩ ⟨#[122]⟩ 1099511627776 0 (betweenR vK wK chapR)).out.length = 0 := by kernel_rfl
theorem k7 : (swFold ⟨#[]⟩ hiK 5 0 (betweenR vK wK [])).out.length = 0 := by kernel_rfl
set_option maxHeartbeats 4000000 in
theorem sweepKnown_walk {w : World} (hw : Sh w) : Calls Tryd.prog 3 #[] w fun e w' => e = .returned (.bool true) ∧ Gr w w' := by
  have HSh := Lib.hid hw
  clear hw
  go_enter Tryd.func3, Tryd.ntmps3
  go_wp2_with fail
  refine (chapter15 w).mono ?_
  rintro e w1 ⟨ta, rfl, h1, hg1⟩
  have HT := Lib.hid h1
  have HG := Lib.hid hg1
  clear h1 hg1
  go_wp2_with fail
  refine (all15 _).mono ?_
  rintro e w1 ⟨rfl, hg1⟩
  replace HG := Lib.hid (HG.out.trans hg1)
  replace HT := Lib.hid (HT.out.gr hg1)
  clear hg1
  go_wp2_with fail
  refine (at15 1 _).mono ?_
  rintro e w1 ⟨rfl, hg1⟩
  replace HG := Lib.hid (HG.out.trans hg1)
  replace HT := Lib.hid (HT.out.gr hg1)
  clear hg1
  go_wp2_with fail
  refine (sweep_nil ⟨#[]⟩ hiK 1 0 _).mono ?_
  rintro e w1 ⟨rfl, hg1⟩
  replace HG := Lib.hid (HG.out.trans hg1)
  replace HT := Lib.hid (HT.out.gr hg1)
  clear hg1
  go_wp2_with fail
  refine (at15 1 _).mono ?_
  rintro e w1 ⟨rfl, hg1⟩
  replace HG := Lib.hid (HG.out.trans hg1)
  replace HT := Lib.hid (HT.out.gr hg1)
  clear hg1
  go_wp2_with fail
  refine (sweep_arg ta ⟨#[98]⟩ ⟨#[97]⟩ 1 0 (by decide) (by decide) (.inl (by kernel_rfl)) _).mono ?_
  rintro e w1 ⟨rfl, hg1⟩
  replace HG := Lib.hid (HG.out.trans hg1)
  replace HT := Lib.hid (HT.out.gr hg1)
  clear hg1
  go_wp2_with fail
  refine (Tryd.strings_Repeat ⟨#[122]⟩ 34 _ (by decide) (by decide)).mono ?_
  rintro e w1 ⟨rfl, hb⟩
  have hg1 := Gr.of hb
  replace HG := Lib.hid (HG.out.trans hg1)
  replace HT := Lib.hid (HT.out.gr hg1)
  clear hb hg1
  go_wp2_with fail
  refine (at15 1 _).mono ?_
  rintro e w1 ⟨rfl, hg1⟩
  replace HG := Lib.hid (HG.out.trans hg1)
  replace HT := Lib.hid (HT.out.gr hg1)
  clear hg1
  go_wp2_with fail
  refine (sweep_long ta ⟨#[]⟩ zK 1 0 (.inr (by decide)) _).mono ?_
  rintro e w1 ⟨rfl, hg1⟩
  replace HG := Lib.hid (HG.out.trans hg1)
  replace HT := Lib.hid (HT.out.gr hg1)
  clear hg1
  go_wp2_with fail
  refine (all15 _).mono ?_
  rintro e w1 ⟨rfl, hg1⟩
  replace HG := Lib.hid (HG.out.trans hg1)
  replace HT := Lib.hid (HT.out.gr hg1)
  clear hg1
  go_wp2_with fail
  refine (at15 (-1) _).mono ?_
  rintro e w1 ⟨rfl, hg1⟩
  replace HG := Lib.hid (HG.out.trans hg1)
  replace HT := Lib.hid (HT.out.gr hg1)
  clear hg1
  go_wp2_with fail
  refine (sweep_arg ta ⟨#[]⟩ hiK (-1) 0 (by decide) hi_size (.inr (by decide)) _).mono ?_
  rintro e w1 ⟨rfl, hg1⟩
  replace HG := Lib.hid (HG.out.trans hg1)
  replace HT := Lib.hid (HT.out.gr hg1)
  clear hg1
  go_wp2_with fail
  refine (at15 1099511627776 _).mono ?_
  rintro e w1 ⟨rfl, hg1⟩
  replace HG := Lib.hid (HG.out.trans hg1)
  replace HT := Lib.hid (HT.out.gr hg1)
  clear hg1
  go_wp2_with fail
  refine (sweep_ok HT.out chap_sz chap_len ⟨#[97]⟩ ⟨#[97, 0]⟩ (by decide) (by decide) (by kernel_rfl) 1099511627776 0 (by decide)).mono ?_
  rintro e w1 ⟨v5, rfl, ho, hg1⟩
  obtain ⟨q5, c5, e5⟩ := RdO.form (OwnG.rd opEnc (by decide) ho)
  rw [k5] at e5
  subst e5
  replace HG := Lib.hid (HG.out.trans hg1)
  replace HT := Lib.hid (HT.out.gr hg1)
  clear hg1 ho
  have hlen5 := fun W ty => len_ops (w := W) (q := q5) (n := 3) (c := c5) (ty := ty)
  go_wp2_with fail
  refine (at15 1099511627776 _).mono ?_
  rintro e w1 ⟨rfl, hg1⟩
  replace HG := Lib.hid (HG.out.trans hg1)
  replace HT := Lib.hid (HT.out.gr hg1)
  clear hg1
  go_wp2_with fail
  refine (sweep_ok HT.out chap_sz chap_len ⟨#[97, 97]⟩ ⟨#[122]⟩ (by decide) (by decide) (by kernel_rfl) 1099511627776 0 (by decide)).mono ?_
  rintro e w1 ⟨v6, rfl, ho, hg1⟩
  obtain ⟨q6, c6, e6⟩ := RdO.form (OwnG.rd opEnc (by decide) ho)
  rw [k6] at e6
  subst e6
  replace HG := Lib.hid (HG.out.trans hg1)
  replace HT := Lib.hid (HT.out.gr hg1)
  clear hg1 ho
  have hlen6 := fun W ty => len_ops (w := W) (q := q6) (n := 0) (c := c6) (ty := ty)
  clear HT
  go_wp2_with fail
  refine (new_tab 1 _).mono ?_
  rintro e w1 ⟨tn, rfl, h1, hg1⟩
  have HT := Lib.hid h1
  replace HG := Lib.hid (HG.out.trans hg1)
  clear h1 hg1
  go_wp2_with fail
  refine (all15 _).mono ?_
  rintro e w1 ⟨rfl, hg1⟩
  replace HG := Lib.hid (HG.out.trans hg1)
  replace HT := Lib.hid (HT.out.gr hg1)
  clear hg1
  go_wp2_with fail
  refine (at15 5 _).mono ?_
  rintro e w1 ⟨rfl, hg1⟩
  replace HG := Lib.hid (HG.out.trans hg1)
  replace HT := Lib.hid (HT.out.gr hg1)
  clear hg1
  go_wp2_with fail
  refine (sweep_ok HT.out (by simp) (by simp) ⟨#[]⟩ hiK (by decide) hi_size empty_hi 5 0 (by decide)).mono ?_
  rintro e w1 ⟨v7, rfl, ho, hg1⟩
  obtain ⟨q7, c7, e7⟩ := RdO.form (OwnG.rd opEnc (by decide) ho)
  rw [k7] at e7
  subst e7
  replace HG := Lib.hid (HG.out.trans hg1)
  replace HT := Lib.hid (HT.out.gr hg1)
  clear hg1 ho
  have hlen7 := fun W ty => len_ops (w := W) (q := q7) (n := 0) (c := c7) (ty := ty)
  go_wp2_with fail
  refine (at15 (-1) _).mono ?_
  rintro e w1 ⟨rfl, hg1⟩
  replace HG := Lib.hid (HG.out.trans hg1)
  replace HT := Lib.hid (HT.out.gr hg1)
  clear hg1
  go_wp2_with fail
  refine (sweep_nil ⟨#[]⟩ ⟨#[]⟩ (-1) 0 _).mono ?_
  rintro e w1 ⟨rfl, hg1⟩
  replace HG := Lib.hid (HG.out.trans hg1)
  replace HT := Lib.hid (HT.out.gr hg1)
  clear hg1
  go_wp2_with fail
  refine (works15 (HSh.out.gr HG.out)).mono ?_
  rintro e w1 ⟨rfl, hg1⟩
  replace HG := Lib.hid (HG.out.trans hg1)
  replace HT := Lib.hid (HT.out.gr hg1)
  clear hg1
  go_wp2
  go_ret
  exact ⟨rfl, HG.out⟩
end Go.Proofs.YtocijpeminghoaaDoor
