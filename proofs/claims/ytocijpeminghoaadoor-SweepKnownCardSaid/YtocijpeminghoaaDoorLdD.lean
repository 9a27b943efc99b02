/- Layer 15: takes: what goes of the chapter's table. -/
import Derived.Test.YtocijpeminghoaaDoorLdC
namespace Go.Proofs.YtocijpeminghoaaDoor
open Go.RowKit
set_option maxRecDepth 100000
set_option linter.unusedVariables false
set_option linter.unusedSimpArgs false
set_option linter.unnecessarySimpa false

theorem chap_eq : chapR = [(ofL [118, 97, 0, 0, 0, 255, 255, 255, 255, 216, 15, 255, 255], ofL [1, 1, 1, 1, 122]), (ofL [118, 97, 0, 0, 0, 255, 255, 255, 255, 226, 15, 255, 255], ofL [0]), (ofL [118, 97, 0, 0, 0, 255, 255, 255, 255, 236, 15, 255, 255], ofL [1, 1, 1, 1, 121]), (ofL [118, 97, 0, 0, 0, 255, 255, 255, 255, 246, 15, 255, 255], ofL [1, 1, 1, 1, 120]), (ofL [118, 98, 0, 0, 0, 255, 255, 255, 255, 246, 15, 255, 255], ofL [1, 1, 1, 1, 120])] := by kernel_rfl
theorem chap_sz : ∀ x ∈ chapR, x.1.size < 140737488355328 ∧ x.2.size ≤ 140737488351232 := by
  rw [chap_eq]
  intro x hx
  simp only [List.mem_cons, List.not_mem_nil, or_false] at hx
  rcases hx with rfl | rfl | rfl | rfl | rfl <;> exact ⟨by decide, by decide⟩
theorem chap_len : chapR.length ≤ 1000000000 := by rw [chap_eq]; decide
theorem empty_hi : klt ⟨#[]⟩ hiK = true := by kernel_rfl
theorem hi_size : hiK.size ≤ 33 := by decide
def goesL (z : Int) : List Opp := (swFold ⟨#[]⟩ hiK z 0 (betweenR vK wK chapR)).out
def goL (x : Int) : Opp := ⟨ofL (versionKeyR [97] x 0).1, ⟨#[]⟩, true⟩
abbrev RdJ (w : World) (v : Value) (l : List Int) : Prop := RdR (fun _ ds (a : Int) => ds = [.int .i64 a]) 1 w v l
theorem RdJ.gr {a b : World} {v : Value} {l : List Int} (h : RdJ a v l) (hg : Gr a b) : RdJ b v l := RdR.gr (fun _ _ _ _ _ h => h) hg h
theorem RdJ.form {w : World} {v : Value} {l : List Int} (h : RdJ w v l) : ∃ q c, v = .slice q l.length c := by
  rcases h with ⟨rfl, q, c, rfl, _⟩ | ⟨blk, off, cap, rfl, _⟩
  · exact ⟨q, c, rfl⟩
  · exact ⟨_, _, rfl⟩
theorem RdJ.at {w : World} {v : Value} {l : List Int} (h : RdJ w v l) {k : Nat} (hk : k < l.length) : ∃ blk off cap, v = .slice (some ⟨blk, off, none⟩) l.length cap ∧ l.length ≤ cap ∧ cap ≤ maxLen ∧ w.cell? ⟨blk, off + k, none⟩ = some (.int .i64 l[k]) := by
  rcases h with ⟨rfl, _⟩ | ⟨blk, off, cap, rfl, h1, h2, h3, h4, h5⟩
  · simp at hk
  · obtain ⟨ds, d1, d2, d3⟩ := h5 k hk
    subst d3
    exact ⟨blk, off, cap, rfl, h2, h3, by simpa using d2 0 (by simp)⟩
theorem len_js {w : World} {q : Option Addr} {n c : Nat} {ty : TypeId} : (Builtin.len_ #[107] ty #[.slice q n c]).run Tryd.prog w = .ok (.int .i64 n) w := by
  cases q <;> simp [Builtin.len_, run_underlying Tryd.underlying107, go_sem]
theorem takes15 (z : Int) (want : List Int) {v : Value} {w : World} (hw : Sh w) (hv : RdJ w v want) (hst : stampOk z 0 = true) (hres : goesL z = want.map goL) (hok : ∀ x ∈ want, (versionKeyR [97] x 0).2 = 0) (hlen : want.length ≤ 1000) :
    Calls Tryd.prog 26 #[.int .i64 z, v] w fun e w' => e = .returned (.bool true) ∧ Gr w w' := by
  obtain ⟨q, c, rfl⟩ := hv.form
  have HL := Lib.hid hv
  have HSh := Lib.hid hw
  have HSt := Lib.hid hst
  have HRes := Lib.hid hres
  have HOk := Lib.hid hok
  have hlenv := fun W ty => len_js (w := W) (q := q) (n := want.length) (c := c) (ty := ty)
  clear hv hw hst hres hok
  go_enter Tryd.func26, Tryd.ntmps26
  go_wp2_with fail
  refine (chapter15 w).mono ?_
  rintro e w1 ⟨ta, rfl, h1, hg1⟩
  have HT := Lib.hid h1
  have HG1 := Lib.hid hg1
  clear h1 hg1
  go_wp2_with fail
  refine (all15 w1).mono ?_
  rintro e w2 ⟨rfl, hg2⟩
  have HG2 := Lib.hid (HG1.out.trans hg2)
  have HT2 := Lib.hid (HT.out.gr hg2)
  clear HG1 HT hg2
  go_wp2_with fail
  refine (at15 z w2).mono ?_
  rintro e w3 ⟨rfl, hg3⟩
  have HG3 := Lib.hid (HG2.out.trans hg3)
  have HT3 := Lib.hid (HT2.out.gr hg3)
  clear HG2 HT2 hg3
  go_wp2_with fail
  refine (sweep_ok HT3.out chap_sz chap_len ⟨#[]⟩ hiK (by decide) hi_size empty_hi z 0 HSt.out).mono ?_
  rintro e w4 ⟨lv, rfl, hown, hg4⟩
  have HG4 := Lib.hid (HG3.out.trans hg4)
  have hrd : RdO w4 lv (goesL z) := hown.rd opEnc (by decide)
  rw [HRes.out] at hrd
  obtain ⟨q2, c2, rfl⟩ := hrd.form
  have HO := Lib.hid hrd
  clear HG3 HT3 hg4 hown hrd
  have hlenw := fun W ty => len_ops (w := W) (q := q2) (n := (want.map goL).length) (c := c2) (ty := ty)
  have hml : (want.map goL).length = want.length := List.length_map _
  go_wp2
  go_loopw [7] (fun iv wr => ∃ k : Nat, iv = .int .i64 k ∧ k ≤ want.length ∧ Hid (Gr w4 wr)) (fun iv _ => want.length - (intOf iv).toNat)
  case atStart => exact ⟨0, rfl, Nat.zero_le _, Lib.hid (Gr.refl _)⟩
  case round =>
    obtain ⟨k, rfl, hk, HG⟩ := hrel
    by_cases hkl : k < want.length
    · obtain ⟨bk, of, cp, e1, q1, q2, c0⟩ := (HL.out.gr (HG4.out.trans HG.out)).at hkl
      cases e1
      have hkm : k < (want.map goL).length := by rw [hml]; exact hkl
      obtain ⟨bo, oo, co, e2, r1, r2, d0, d1, d2⟩ := (HO.out.gr HG.out).at hkm
      cases e2
      have hgk : (want.map goL)[k] = goL want[k] := List.getElem_map _
      rw [hgk] at d0 d1 d2
      unfold maxLen at q2 r2
      have HVK := Lib.hid (versionKey_any ⟨#[97]⟩ want[k] 0)
      have HKey : Hid ((goL want[k]).key = ⟨(versionKeyR [97] want[k] 0).1.toArray⟩) := Lib.hid rfl
      have hz := HOk.out _ (List.getElem_mem hkl)
      go_wp2_with fail
      refine (at15 want[k] _).mono ?_
      rintro e w5 ⟨rfl, hg5⟩
      have HG5 := Lib.hid hg5
      clear hg5
      go_wp2_with fail
      refine (HVK.out _ (HSh.out.gr ((HG4.out.trans HG.out).trans HG5.out))).mono ?_
      rintro e w6 ⟨rfl, hg6⟩
      have HG6 := Lib.hid (HG5.out.trans hg6)
      clear hg6
      have f0 := HG6.out.cell' d0
      have f1 : w6.cell? ⟨bo, oo + k * 3 + 1, none⟩ = some (.string ⟨#[]⟩) := HG6.out.cell' d1
      have f2 : w6.cell? ⟨bo, oo + k * 3 + 2, none⟩ = some (.bool true) := HG6.out.cell' d2
      rw [HKey.out] at f0
      clear d0 d1 d2 c0
      go_wp2
      go_roundw
      case rel => exact ⟨k + 1, by go_num, by omega, Lib.hid (HG.out.trans HG6.out)⟩
      case measure => simp [intOf]; omega
    · obtain rfl : k = want.length := by omega
      go_wp2
      go_ret
      exact ⟨rfl, HG4.out.trans HG.out⟩
end Go.Proofs.YtocijpeminghoaaDoor
