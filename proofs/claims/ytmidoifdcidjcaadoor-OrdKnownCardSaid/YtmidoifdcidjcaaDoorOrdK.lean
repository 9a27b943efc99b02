/- The walk of OrdKnown: the chapter's examples, both ends. -/
import Derived.Test.YtmidoifdcidjcaaDoorOrdE
import Derived.Lib.Repeat
namespace Go.Proofs.YtmidoifdcidjcaaDoor
open Go.RowKit
set_option linter.unusedVariables false
set_option linter.unusedSimpArgs false

theorem takeL_run {c : UInt8} (hc : c ≠ 0) : ∀ (n : Nat) (out t : List UInt8), out.length + n ≤ 1000 → takeL out (List.replicate n c ++ t) = takeL (out ++ List.replicate n c) t
  | 0, out, t, _ => by simp
  | n + 1, out, t, h => by
    rw [List.replicate_succ, List.cons_append, takeL_go out _ c hc (by omega), takeL_run hc n _ t (by simp; omega)]
    simp
theorem takeL_over {c : UInt8} (hc : c ≠ 0) (t : List UInt8) : takeL [] (List.replicate 1001 c ++ t) = ([], [], 5) := by
  rw [show List.replicate 1001 c = List.replicate 1000 c ++ [c] from List.replicate_succ', List.append_assoc, takeL_run hc 1000 [] _ (by simp)]
  exact takeL_lim _ _ c hc (by rw [List.nil_append, List.length_replicate])
theorem takeL_trunc {c : UInt8} (hc : c ≠ 0) : takeL [] (List.replicate 1000 c) = ([], [], 3) := by
  have := takeL_run hc 1000 [] [] (by simp)
  rw [List.append_nil] at this
  rw [this, takeL_nil]
theorem takeL_synt {c : UInt8} (hc : c ≠ 0) : takeL [] (List.replicate 1000 c ++ [0, 2]) = ([], [], 4) := by
  rw [takeL_run hc 1000 [] _ (by simp)]
  exact takeL_bad _ _ _ _ rfl (by decide) (by decide)
theorem esc_zeros : ∀ n, (esc (List.replicate n 0)).length = 2 * n
  | 0 => rfl
  | n + 1 => by
    rw [List.replicate_succ]
    simp only [esc, if_pos]
    simp [esc_zeros n]
    omega

theorem rep_any (x : UInt8) (c : Nat) (hc2 : 2 ≤ c) (hc : c ≤ 2000) (w : World) :
    Calls Tryd.prog 28 #[.string ⟨#[x]⟩, .int .i64 (c : Int)] w fun e w' => e = .returned (.string ⟨(List.replicate c x).toArray⟩) ∧ Gr w w' := by
  have hs : (⟨#[x]⟩ : ByteArray).size = 1 := rfl
  have he : Lib.repeatL (⟨#[x]⟩ : ByteArray).data.toList c = List.replicate c x := by
    have := Lib.repeatL_replicate x 1 c
    rw [Nat.mul_one] at this
    exact this
  refine (Tryd.strings_Repeat_main ⟨#[x]⟩ c w hc2 (by omega) (by rw [hs]; omega) (by rw [hs]; omega)).mono ?_
  rintro e w' ⟨rfl, hb⟩
  rw [he]
  exact ⟨rfl, ⟨hb⟩⟩

theorem known_key : ∃ Z A : ByteArray, A.size = 2002 ∧
    (∀ w, Calls Tryd.prog 28 #[.string ⟨#[0]⟩, .int .i64 1000] w fun e w' => e = .returned (.string Z) ∧ Gr w w') ∧
    (∀ w, Sh w → Calls Tryd.prog 12 #[.string Z] w fun e w' => e = .returned (.tuple #[.string A, .int .i64 0]) ∧ Gr w w') ∧
    (∀ w, Calls Tryd.prog 12 #[.string (Z ++ ⟨#[120]⟩)] w fun e w' => e = .returned (.tuple #[.string ⟨#[]⟩, .int .i64 5]) ∧ w = w') ∧
    (∀ w, Calls Tryd.prog 14 #[.string (A ++ ⟨#[122]⟩)] w fun e w' => e = .returned (.tuple #[.string Z, .string ⟨#[122]⟩, .int .i64 0]) ∧ Gr w w') ∧ Z.size = 1000 := by
  have hz : (⟨(List.replicate 1000 (0 : UInt8)).toArray⟩ : ByteArray).size = 1000 := by rw [ba_size, List.length_replicate]
  have hl : (⟨(List.replicate 1000 (0 : UInt8)).toArray⟩ : ByteArray).data.toList = List.replicate 1000 0 := rfl
  have hk : (keyL (List.replicate 1000 0)).length = 2002 := by unfold keyL; rw [List.length_append, esc_zeros]; rfl
  refine ⟨⟨(List.replicate 1000 0).toArray⟩, ⟨(keyL (List.replicate 1000 0)).toArray⟩, ?_, fun w => rep_any 0 1000 (by omega) (by omega) w, fun w hw => ?_, fun w => ?_, fun w => ?_, hz⟩
  · rw [ba_size, hk]
  · exact key_any _ (by rw [hz]; omega) w hw
  · exact key_long _ (by rw [ByteArray.size_append, hz, show (⟨#[120]⟩ : ByteArray).size = 1 from rfl]; omega) w
  · refine takeKey_eq _ (by rw [ByteArray.size_append, ba_size, hk, show (⟨#[122]⟩ : ByteArray).size = 1 from rfl]; omega) (p := List.replicate 1000 0) (q := [122]) ?_ w
    rw [Joins.data_append]
    exact takeL_keyL _ _ (Nat.le_of_eq List.length_replicate)

theorem known_take : ∃ X Y : ByteArray, X.size = 1001 ∧ Y.size = 1000 ∧
    (∀ w, Calls Tryd.prog 28 #[.string ⟨#[120]⟩, .int .i64 1001] w fun e w' => e = .returned (.string X) ∧ Gr w w') ∧
    (∀ w, Calls Tryd.prog 28 #[.string ⟨#[120]⟩, .int .i64 1000] w fun e w' => e = .returned (.string Y) ∧ Gr w w') ∧
    (∀ w, Calls Tryd.prog 14 #[.string (X ++ ⟨#[0, 0]⟩)] w fun e w' => e = .returned (.tuple #[.string ⟨#[]⟩, .string ⟨#[]⟩, .int .i64 5]) ∧ Gr w w') ∧
    (∀ w, Calls Tryd.prog 14 #[.string X] w fun e w' => e = .returned (.tuple #[.string ⟨#[]⟩, .string ⟨#[]⟩, .int .i64 5]) ∧ Gr w w') ∧
    (∀ w, Calls Tryd.prog 14 #[.string Y] w fun e w' => e = .returned (.tuple #[.string ⟨#[]⟩, .string ⟨#[]⟩, .int .i64 3]) ∧ Gr w w') ∧
    (∀ w, Calls Tryd.prog 14 #[.string (Y ++ ⟨#[0, 2]⟩)] w fun e w' => e = .returned (.tuple #[.string ⟨#[]⟩, .string ⟨#[]⟩, .int .i64 4]) ∧ Gr w w') := by
  obtain ⟨n, hn⟩ : ∃ n, n = 1001 := ⟨_, rfl⟩
  obtain ⟨m, hm⟩ : ∃ m, m = 1000 := ⟨_, rfl⟩
  have hx : (⟨(List.replicate n (120 : UInt8)).toArray⟩ : ByteArray).size = n := by rw [ba_size, List.length_replicate]
  have hy : (⟨(List.replicate m (120 : UInt8)).toArray⟩ : ByteArray).size = m := by rw [ba_size, List.length_replicate]
  have hc : (120 : UInt8) ≠ 0 := by decide
  have o : ∀ t, takeL [] (List.replicate n 120 ++ t) = ([], [], 5) := fun t => by rw [hn]; exact takeL_over hc t
  have o0 := o []
  rw [List.append_nil] at o0
  have o3 : takeL [] (List.replicate m 120) = ([], [], 3) := by rw [hm]; exact takeL_trunc hc
  have o4 : takeL [] (List.replicate m 120 ++ [0, 2]) = ([], [], 4) := by rw [hm]; exact takeL_synt hc
  refine ⟨⟨(List.replicate n 120).toArray⟩, ⟨(List.replicate m 120).toArray⟩, hx.trans hn, hy.trans hm, fun w => ?_, fun w => ?_, fun w => ?_, fun w => ?_, fun w => ?_, fun w => ?_⟩
  · have := rep_any 120 n (by omega) (by omega) w
    rw [show (n : Int) = 1001 by omega] at this
    exact this
  · have := rep_any 120 m (by omega) (by omega) w
    rw [show (m : Int) = 1000 by omega] at this
    exact this
  · exact takeKey_eq _ (by rw [ByteArray.size_append, hx, show (⟨#[0, 0]⟩ : ByteArray).size = 2 from rfl]; omega) (by rw [Joins.data_append]; exact o _) w
  · exact takeKey_eq _ (by rw [hx]; omega) o0 w
  · exact takeKey_eq _ (by rw [hy]; omega) o3 w
  · exact takeKey_eq _ (by rw [ByteArray.size_append, hy, show (⟨#[0, 2]⟩ : ByteArray).size = 2 from rfl]; omega) (by rw [Joins.data_append]; exact o4) w

theorem known_check : ∃ C D : ByteArray,
    (∀ w, Calls Tryd.prog 28 #[.string ⟨#[107]⟩, .int .i64 32] w fun e w' => e = .returned (.string C) ∧ Gr w w') ∧
    (∀ w, Calls Tryd.prog 28 #[.string ⟨#[107]⟩, .int .i64 33] w fun e w' => e = .returned (.string D) ∧ Gr w w') ∧
    (∀ w, Calls Tryd.prog 16 #[.string C] w fun e w' => e = .returned (.int .i64 0) ∧ w = w') ∧
    (∀ w, Calls Tryd.prog 16 #[.string D] w fun e w' => e = .returned (.int .i64 2) ∧ w = w') :=
  ⟨⟨(List.replicate 32 107).toArray⟩, ⟨(List.replicate 33 107).toArray⟩, fun w => rep_any 107 32 (by omega) (by omega) w, fun w => rep_any 107 33 (by omega) (by omega) w,
    fun w => check_any _ w, fun w => check_any _ w⟩

theorem tk (l : List UInt8) (hl : l.length ≤ 1000) {p q : List UInt8} {e : Int} (h : takeL [] l = (p, q, e)) (w : World) :
    Calls Tryd.prog 14 #[.string ⟨l.toArray⟩] w fun e' w' => e' = .returned (.tuple #[.string ⟨p.toArray⟩, .string ⟨q.toArray⟩, .int .i64 e]) ∧ Gr w w' :=
  takeKey_eq _ (by rw [ba_size]; omega) (by simpa using h) w
theorem tdn (l : List UInt8) {a b : Int} {q : List UInt8} {e : Int} (h : takeDownL l = (a, b, q, e)) (w : World) :
    Calls Tryd.prog 25 #[.string ⟨l.toArray⟩] w fun e' w' => e' = .returned (.tuple #[.agg #[.int .i64 a, .int .i64 b], .string ⟨q.toArray⟩, .int .i64 e]) ∧ Gr w w' :=
  takeDown_eq _ (by simpa using h) w
theorem dn (a b : Int) {p : List UInt8} {e : Int} (h : downR a b = (p, e)) (w : World) :
    Calls Tryd.prog 22 #[.agg #[.int .i64 a, .int .i64 b]] w fun e' w' => e' = .returned (.tuple #[.string ⟨p.toArray⟩, .int .i64 e]) ∧ Gr w w' := by
  have := down_all a b w
  rw [h] at this
  exact this

set_option maxHeartbeats 8000000 in
set_option maxRecDepth 100000 in
theorem ordKnown_walk (w : World) (hw : Sh w) :
    Calls Tryd.prog 11 #[] w fun e w' => e = .returned (.bool true) ∧ Gr w w' := by
  obtain ⟨Z, A, hA, r1, k1, k2, t1, hZ⟩ := known_key
  obtain ⟨X, Y, hX, hY, r2, r3, t2, t3, t4, t5⟩ := known_take
  obtain ⟨C, D, r4, r5, c1, c2⟩ := known_check
  have r6 : ∀ w, Calls Tryd.prog 28 #[.string ⟨#[0]⟩, .int .i64 9] w fun e w' => e = .returned (.string ⟨#[0, 0, 0, 0, 0, 0, 0, 0, 0]⟩) ∧ Gr w w' := fun w => rep_any 0 9 (by omega) (by omega) w
  have R1 := Lib.hid r1; have R2 := Lib.hid r2; have R3 := Lib.hid r3; have R4 := Lib.hid r4; have R5 := Lib.hid r5; have R6 := Lib.hid r6
  have K1 := Lib.hid k1; have K2 := Lib.hid k2
  have T1 := Lib.hid t1; have T2 := Lib.hid t2; have T3 := Lib.hid t3; have T4 := Lib.hid t4; have T5 := Lib.hid t5
  have C1 := Lib.hid c1; have C2 := Lib.hid c2
  have C3 := Lib.hid (fun w => check_any ⟨#[]⟩ w)
  have C4 := Lib.hid (fun w => check_any ⟨#[0]⟩ w)
  clear r1 r2 r3 r4 r5 r6 k1 k2 t1 t2 t3 t4 t5 c1 c2
  have T6 := Lib.hid (tk [] (by decide) (p := []) (q := []) (e := 3) (by decide))
  have T7 := Lib.hid (tk [97] (by decide) (p := []) (q := []) (e := 3) (by decide))
  have T8 := Lib.hid (tk [97, 0] (by decide) (p := []) (q := []) (e := 3) (by decide))
  have T9 := Lib.hid (tk [0, 2] (by decide) (p := []) (q := []) (e := 4) (by decide))
  have Ta := Lib.hid (tk [0, 1, 0] (by decide) (p := []) (q := []) (e := 3) (by decide))
  have D1 := Lib.hid (dn 1099511627776 1048575 (p := [0, 0, 0, 0, 0, 0, 0, 0, 0]) (e := 0) (by decide))
  have D2 := Lib.hid (dn 0 0 (p := [1, 0, 0, 0, 0, 0, 15, 255, 255]) (e := 0) (by decide))
  have D3 := Lib.hid (dn 1099511627777 0 (p := []) (e := 2) (by decide))
  have D4 := Lib.hid (dn (-1) 0 (p := []) (e := 2) (by decide))
  have D5 := Lib.hid (dn 0 1048576 (p := []) (e := 2) (by decide))
  have D6 := Lib.hid (dn 0 (-1) (p := []) (e := 2) (by decide))
  have E1 := Lib.hid (tdn [1, 0, 0, 0, 0, 1, 0, 0, 0] (a := 0) (b := 0) (q := []) (e := 4) (by decide))
  have E2 := Lib.hid (tdn [0, 0, 0, 0, 0, 0, 16, 0, 0] (a := 0) (b := 0) (q := []) (e := 4) (by decide))
  have E3 := Lib.hid (tdn [0, 0, 0, 0, 0, 0, 0, 0] (a := 0) (b := 0) (q := []) (e := 3) (by decide))
  have E4 := Lib.hid (tdn [2, 0, 0, 0, 0, 0, 0, 0, 0] (a := 0) (b := 0) (q := []) (e := 4) (by decide))
  have W1 := Lib.hid (fun w hw => works_any w hw)
  go_enter Tryd.func11, Tryd.ntmps11
  go_wp2_with (first
    | (go_at_call 28; (first | with_reducible refine (R1.out _).mono ?_ | with_reducible refine (R2.out _).mono ?_ | with_reducible refine (R3.out _).mono ?_ | with_reducible refine (R4.out _).mono ?_ | with_reducible refine (R5.out _).mono ?_ | with_reducible refine (R6.out _).mono ?_); rintro e w1 ⟨rfl, hg1⟩)
    | (go_at_call 12; (first | (with_reducible refine (K1.out _ (hw.gr (by repeat (first | (with_reducible exact Gr.refl _) | (with_reducible assumption) | (with_reducible refine Gr.alloc ?_ _) | (with_reducible refine Gr.drew ?_) | (with_reducible refine Gr.drewN ?_ _) | (with_reducible refine Gr.trans ?_ (by assumption)) | (with_reducible refine Gr.setCell ?_ (by first | exact Nat.le_refl _ | omega | (simp; done) | (simp; omega)) _))))).mono ?_; rintro e w1 ⟨rfl, hg1⟩) | (with_reducible refine (K2.out _).mono ?_; rintro e w1 ⟨rfl, rfl⟩)))
    | (go_at_call 14; (first | with_reducible refine (T1.out _).mono ?_ | with_reducible refine (T2.out _).mono ?_ | with_reducible refine (T3.out _).mono ?_ | with_reducible refine (T4.out _).mono ?_ | with_reducible refine (T5.out _).mono ?_ | with_reducible refine (T6.out _).mono ?_ | with_reducible refine (T7.out _).mono ?_ | with_reducible refine (T8.out _).mono ?_ | with_reducible refine (T9.out _).mono ?_ | with_reducible refine (Ta.out _).mono ?_); rintro e w1 ⟨rfl, hg1⟩)
    | (go_at_call 22; (first | with_reducible refine (D1.out _).mono ?_ | with_reducible refine (D2.out _).mono ?_ | with_reducible refine (D3.out _).mono ?_ | with_reducible refine (D4.out _).mono ?_ | with_reducible refine (D5.out _).mono ?_ | with_reducible refine (D6.out _).mono ?_); rintro e w1 ⟨rfl, hg1⟩)
    | (go_at_call 25; (first | with_reducible refine (E1.out _).mono ?_ | with_reducible refine (E2.out _).mono ?_ | with_reducible refine (E3.out _).mono ?_ | with_reducible refine (E4.out _).mono ?_); rintro e w1 ⟨rfl, hg1⟩)
    | (go_at_call 16; (first | with_reducible refine (C1.out _).mono ?_ | with_reducible refine (C2.out _).mono ?_ | with_reducible refine (C3.out _).mono ?_ | with_reducible refine (C4.out _).mono ?_); rintro e w1 ⟨rfl, rfl⟩)
    | (go_at_call 18; refine (W1.out _ (hw.gr (by repeat (first | (with_reducible exact Gr.refl _) | (with_reducible assumption) | (with_reducible refine Gr.alloc ?_ _) | (with_reducible refine Gr.drew ?_) | (with_reducible refine Gr.drewN ?_ _) | (with_reducible refine Gr.trans ?_ (by assumption)) | (with_reducible refine Gr.setCell ?_ (by first | exact Nat.le_refl _ | omega | (simp; done) | (simp; omega)) _))))).mono ?_; rintro e w1 ⟨rfl, hg1⟩))
  all_goals (go_ret; exact ⟨rfl, (by repeat (first | (with_reducible exact Gr.refl _) | (with_reducible assumption) | (with_reducible refine Gr.alloc ?_ _) | (with_reducible refine Gr.drew ?_) | (with_reducible refine Gr.drewN ?_ _) | (with_reducible refine Gr.trans ?_ (by assumption)) | (with_reducible refine Gr.setCell ?_ (by first | exact Nat.le_refl _ | omega | (simp; done) | (simp; omega)) _)))⟩)
end Go.Proofs.YtmidoifdcidjcaaDoor
