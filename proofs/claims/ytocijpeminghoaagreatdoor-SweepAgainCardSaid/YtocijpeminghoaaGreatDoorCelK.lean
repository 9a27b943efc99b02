/- Layer 11: what a text says: numbers, stamps, versions: both sides. -/
import Derived.Test.YtocijpeminghoaaGreatDoorCelJ
import Derived.Test.YtocijpeminghoaaGreatDoorCelE
namespace Go.Proofs.YtocijpeminghoaaGreatDoor
open Go.RowKit
set_option maxRecDepth 100000
set_option linter.unusedVariables false
set_option linter.unusedSimpArgs false

theorem rd_bytes (w : World) (s : ByteArray) (hs : s.size ≤ 140737488355328) : Rd (Lib.bytesWorld w 5 s) (.slice (some ⟨w.heap.size, 0, none⟩) s.size (grownCap w s.size 0 5)) s.data.toList := by
  have hl : s.data.toList.length = s.size := Array.length_toList
  refine .inr ⟨w.heap.size, 0, _, by rw [hl], by rw [hl]; exact grownCap_ge _ _ _ _, grownCap_le_maxLen w _ 0 _ (by unfold maxLen; omega), by rw [Lib.bytesWorld_size]; omega, fun j hj => ?_⟩
  have := Lib.bytesWorld_cell w 5 s j (by rw [← hl]; exact hj)
  rw [Nat.zero_add, this]
  simp only [List.getD, List.getElem?_eq_getElem hj, Option.getD_some]

theorem tyU_bytes (w : World) (s : ByteArray) : TyU (Lib.bytesWorld w 5 s) (.slice (some ⟨w.heap.size, 0, none⟩) s.size (grownCap w s.size 0 5)) := fun g o n c e => by
  cases e
  exact ⟨_, _, Lib.bytesWorld_at_new w 5 s⟩
theorem Rdr.bytes (T : TypeId) (W : World) (s : ByteArray) (hs : s.size ≤ 140737488355328) {n m : Nat} (hm : m = W.heap.size) (hn : n = W.heap.size + 1) :
    Rdr T n (s.data.toList, false) ((Lib.bytesWorld W 5 s).alloc (.cells #[.slice (some ⟨m, 0, none⟩) s.size (grownCap W s.size 0 5), .bool false] T)) := by
  subst hm
  exact Rdr.new T (rd_bytes W s hs) (tyU_bytes W s) (by rw [hn, Lib.bytesWorld_size])
def stampCk (a b : Int) : Int := if mayB a b = true then 0 else 9
theorem stampCheck_ck (a b : Int) (w : World) :
    Calls Tryz.prog 25 #[.agg #[.int .i64 a, .int .i64 b]] w fun e w' => e = .returned (.int .i64 (stampCk a b)) ∧ Gr w w' := stampCheck_any a b w
theorem noU8_slice_bool (v : Value) (hv : ∃ (q : Option Addr) (n c : Nat), v = .slice q n c) (b : Bool) : ∀ (j : Nat) (z : Int), (#[v, Value.bool b] : Array Value)[j]? ≠ some (.int .u8 z) := by
  obtain ⟨q, n, c, rfl⟩ := hv
  intro j z
  rcases j with _ | _ | j <;> simp

theorem bool_cases (b : Bool) : b = true ∨ b = false := by cases b <;> simp
theorem stampCk_cases (a b : Int) : stampCk a b = 0 ∨ stampCk a b = 9 := by unfold stampCk; split <;> simp

set_option maxHeartbeats 1000000 in
theorem takeVersion_any (s : ByteArray) (hs : s.size ≤ 140737488351232) (w : World) :
    Calls Tryz.prog 14 #[.string s] w fun e w' => e = .returned (.tuple #[.string ⟨(takeVerR s.data.toList).1.toArray⟩, .bool (takeVerR s.data.toList).2.1, .int .i64 (takeVerR s.data.toList).2.2]) ∧ Gr w w' := by
  have hl : s.data.toList.length = s.size := Array.length_toList
  have hcv := fun (w : World) => Lib.run_convert_string_bytes (P := Tryz.prog) w 9 82 5 s Tryz.underlying9 Tryz.underlying82 Tryz.underlying5
  have hgr := bytesWorld_gr w 5 s
  have hsz := Lib.bytesWorld_size w 5 s
  have hn1 : (nextF (s.data.toList, false)).1.length ≤ s.size := by rw [← hl]; exact nextF_length _
  have hn2 : (nextS (nextF (s.data.toList, false))).1.length ≤ s.size := Nat.le_trans (nextS_length _) hn1
  have HU : Hid (takeVerR s.data.toList = if offE (if valF (s.data.toList, false) = true then nextS (nextF (s.data.toList, false)) else nextF (s.data.toList, false)) 0 = 0 then ((if valF (s.data.toList, false) = true then valS (nextF (s.data.toList, false)) else []), valF (s.data.toList, false), 0) else ([], false, 4)) := Lib.hid rfl
  cases hv : valF (s.data.toList, false) with
  | false =>
    rcases offE_cases (nextF (s.data.toList, false)) 0 with h0 | h0
    all_goals
      have HV := Lib.hid hv
      have HO := Lib.hid h0
      clear h0 hv
      go_enter Tryz.func14, Tryz.ntmps14
      go_wp2_with (first
        | (go_at_call 35; refine (rflag (s := (s.data.toList, false)) (by exact Rdr.bytes _ _ s (by omega) (by simp) (by simp)) (by simp; omega)).mono ?_; rintro e w1 ⟨rfl, hr1, hF1⟩; have hg1 : Gr w w1 := Fx.toGr (hgr.alloc _) hF1 (by omega); (have HR1 := Lib.hid hr1); clear hr1; have hv := HV.out)
        | (go_at_call 36; refine (rstr HR1.out (by omega)).mono ?_; rintro e w2 ⟨rfl, hr2, hF2⟩; have hg2 : Gr w w2 := Fx.toGr hg1 hF2 (by omega); (have HR2 := Lib.hid hr2); clear hr2)
        | (go_at_call 37; (first | (with_reducible refine (rdone rfl HR2.out 0 (by omega)).mono ?_) | (with_reducible refine (rdone rfl HR1.out 0 (by omega)).mono ?_)); rintro e w3 ⟨rfl, rfl⟩; have ho := HO.out))
      go_ret3
      exact ⟨by rw [HU.out]; simp [HO.out, HV.out], by assumption⟩
  | true =>
    rcases offE_cases (nextS (nextF (s.data.toList, false))) 0 with h0 | h0
    all_goals
      have HV := Lib.hid hv
      have HO := Lib.hid h0
      clear h0 hv
      go_enter Tryz.func14, Tryz.ntmps14
      go_wp2_with (first
        | (go_at_call 35; refine (rflag (s := (s.data.toList, false)) (by exact Rdr.bytes _ _ s (by omega) (by simp) (by simp)) (by simp; omega)).mono ?_; rintro e w1 ⟨rfl, hr1, hF1⟩; have hg1 : Gr w w1 := Fx.toGr (hgr.alloc _) hF1 (by omega); (have HR1 := Lib.hid hr1); clear hr1; have hv := HV.out)
        | (go_at_call 36; refine (rstr HR1.out (by omega)).mono ?_; rintro e w2 ⟨rfl, hr2, hF2⟩; have hg2 : Gr w w2 := Fx.toGr hg1 hF2 (by omega); (have HR2 := Lib.hid hr2); clear hr2)
        | (go_at_call 37; (first | (with_reducible refine (rdone rfl HR2.out 0 (by omega)).mono ?_) | (with_reducible refine (rdone rfl HR1.out 0 (by omega)).mono ?_)); rintro e w3 ⟨rfl, rfl⟩; have ho := HO.out))
      go_ret3
      exact ⟨by rw [HU.out]; simp [HO.out, HV.out], by assumption⟩

end Go.Proofs.YtocijpeminghoaaGreatDoor
