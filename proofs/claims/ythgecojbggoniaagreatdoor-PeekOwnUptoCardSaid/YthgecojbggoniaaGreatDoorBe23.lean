/- What the rows stand on, part 23: TabA, OrdD, TakP. Printed by bundle.py out of my texts. -/
import Derived.Test.YthgecojbggoniaaGreatDoorBe01
import Derived.Test.YthgecojbggoniaaGreatDoorBe04
import Derived.Test.YthgecojbggoniaaGreatDoorBe05
import Derived.Test.YthgecojbggoniaaGreatDoorBe14
import Derived.Test.YthgecojbggoniaaGreatDoorBe18
namespace Go.Proofs.YthgecojbggoniaaGreatDoor
open Go.RowKit
set_option maxRecDepth 100000
set_option linter.unusedVariables false
set_option linter.unusedSimpArgs false
set_option linter.unnecessarySimpa false

set_option maxHeartbeats 2000000 in
theorem draw_any {bx : Nat} {x : Int} {w : World} (h : w.heap[bx]? = some (.cells #[.int .u64 x] 154)) :
    Calls Tryz.prog 83 #[.pointer (some ⟨bx, 0, none⟩)] w fun e w' => ∃ (s : Nat) (x' : Int), e = .returned (.int .i64 s) ∧ 1 ≤ s ∧ s ≤ 16 ∧ w' = w.setCell ⟨bx, 0, none⟩ (.int .u64 x') := by
  obtain ⟨k_0, g_0, l_0⟩ := blk1 h
  clear h
  go_enter Tryz.func83, Tryz.ntmps83
  go_wp2
  go_loopw [2, 3] (fun yv nv wr => ∃ (y : Int) (n : Nat) (x' : Int), yv = .int .u64 y ∧ nv = .int .i64 n ∧ 1 ≤ n ∧ n ≤ 16 ∧ wr = w.setCell ⟨bx, 0, none⟩ (.int .u64 x')) (fun _ nv _ => 16 - (intOf nv).toNat)
  case atStart => exact ⟨_, 1, _, rfl, rfl, by omega, by omega, rfl⟩
  case round =>
    obtain ⟨y, n, x', rfl, rfl, h1, h2, rfl⟩ := hrel
    by_cases h16 : n < 16
    · cases hb : (bits BinOp.and IntKind.u64 y 1 == 1) with
      | true =>
        go_wp2
        go_roundw
        case rel => exact ⟨_, n + 1, _, rfl, by go_num, by omega, by omega, rfl⟩
        case measure => simp [intOf]; omega
      | false =>
        go_wp2
        go_ret
        exact ⟨n, x', rfl, h1, h2, rfl⟩
    · obtain rfl : n = 16 := by omega
      go_wp2
      go_ret
      exact ⟨16, x', rfl, h1, h2, rfl⟩
theorem drawing_any (seed : Int) (w : World) :
    Calls Tryz.prog 54 #[.int .i64 seed] w fun e w' => ∃ bx x, e = .returned (.func (.func 83) #[] #[.pointer (some ⟨bx, 0, none⟩)]) ∧ w.heap.size ≤ bx ∧ w'.heap[bx]? = some (.cells #[.int .u64 x] 154) ∧ Gr w w' := by
  go_enter Tryz.func54, Tryz.ntmps54
  go_wp2
  go_ret
  exact ⟨_, _, rfl, Nat.le_refl _, heap_newn rfl, (Gr.refl w).alloc _⟩
structure TabAt (tb : Nat) (S : Nat → Prop) (R : List Rw) (w : World) : Prop where
  ex : ∃ lb H bx L x seed, w.heap[tb]? = some (.cells #[.pointer (some ⟨lb, 0, none⟩), .func (.func 83) #[] #[.pointer (some ⟨bx, 0, none⟩)], .int .i64 seed] 112) ∧
    w.heap[bx]? = some (.cells #[.int .u64 x] 154) ∧ SkipAt lb H S L w ∧ rowsL L = R ∧ S bx ∧ S tb
theorem new_tab (seed : Int) (w : World) :
    Calls Tryz.prog 26 #[.int .i64 seed] w fun e w' => ∃ tb, e = .returned (.pointer (some ⟨tb, 0, none⟩)) ∧ TabAt tb (fun k => w.heap.size ≤ k) [] w' ∧ Gr w w' := by
  go_enter Tryz.func26, Tryz.ntmps26
  go_wp2_with fail
  refine (new_skip w).mono ?_
  rintro e w1 ⟨lb, H, rfl, hsk, hg1⟩
  have HSk := Lib.hid hsk
  have HG1 := Lib.hid hg1
  clear hsk hg1
  go_wp2_with fail
  refine (drawing_any seed w1).mono ?_
  rintro e w2 ⟨bx, x, rfl, hbx, hx, hg2⟩
  have HX := Lib.hid hx
  have HBX := Lib.hid hbx
  have HG2 := Lib.hid hg2
  clear hx hbx hg2
  go_wp2
  go_ret
  refine ⟨_, rfl, ⟨lb, H, bx, [], x, seed, heap_newn rfl, heap_alloc1 HX.out, (HSk.out.gr HG2.out).gr ((Gr.refl _).alloc _), rfl, Nat.le_trans HG1.out.size HBX.out, ?_⟩, (HG1.out.trans HG2.out).alloc _⟩
  exact (HG1.out.trans HG2.out).size
theorem tab_none {tb : Nat} {lv fv : Value} {z : Int} {lb : Nat} {w : World} (h : w.heap[tb]? = some (.cells #[.pointer (some ⟨lb, 0, none⟩), fv, .int .i64 z] 112)) :
    Calls Tryz.prog 50 #[.pointer (some ⟨tb, 0, none⟩)] w fun e w' => e = .returned (.bool false) ∧ w = w' := by
  obtain ⟨k_0, k_1, k_2, g_0, g_1, g_2, l_0⟩ := blk3 h
  clear h
  go_enter Tryz.func50, Tryz.ntmps50
  go_wp2
  go_ret
  exact ⟨rfl, rfl⟩
end Go.Proofs.YthgecojbggoniaaGreatDoor
namespace Go.Proofs.YthgecojbggoniaaGreatDoor
open Go.RowKit
set_option maxRecDepth 100000
set_option linter.unusedVariables false
set_option linter.unusedSimpArgs false

theorem key_all (s : ByteArray) (w : World) (hw : Sh w) :
    Calls Tryz.prog 105 #[.string s] w fun e w' => e = .returned (.tuple #[.string ⟨(keyR s.data.toList).1.toArray⟩, .int .i64 (keyR s.data.toList).2]) ∧ Gr w w' := by
  by_cases hs : s.size ≤ 1000
  · rw [show keyR s.data.toList = (keyL s.data.toList, 0) by unfold keyR; rw [if_pos (by simpa using hs)]]
    exact key_any s hs w hw
  · rw [show keyR s.data.toList = ([], 5) by unfold keyR; rw [if_neg (by simpa using hs)]]
    refine (key_long s (by omega) w).mono ?_
    rintro e w' ⟨rfl, rfl⟩
    exact ⟨rfl, Gr.refl _⟩
theorem refKey_all (s : ByteArray) (w : World) :
    Calls Tryz.prog 75 #[.string s] w fun e w' => e = .returned (.tuple #[.string ⟨(keyR s.data.toList).1.toArray⟩, .int .i64 (keyR s.data.toList).2]) ∧ Gr w w' := by
  by_cases hs : s.size ≤ 1000
  · rw [show keyR s.data.toList = (keyL s.data.toList, 0) by unfold keyR; rw [if_pos (by simpa using hs)]]
    exact refKey_any s hs w
  · rw [show keyR s.data.toList = ([], 5) by unfold keyR; rw [if_neg (by simpa using hs)]]
    refine (refKey_long s (by omega) w).mono ?_
    rintro e w' ⟨rfl, rfl⟩
    exact ⟨rfl, Gr.refl _⟩
theorem down_all (a b : Int) (w : World) :
    Calls Tryz.prog 114 #[.agg #[.int .i64 a, .int .i64 b]] w fun e w' => e = .returned (.tuple #[.string ⟨(downR a b).1.toArray⟩, .int .i64 (downR a b).2]) ∧ Gr w w' := by
  by_cases h : mayB a b = true
  · rw [show downR a b = (downL a b, 0) by unfold downR; rw [if_pos h]]
    exact down_yes a b w h
  · rw [show downR a b = ([], 2) by unfold downR; rw [if_neg h]]
    exact down_no a b w (by simpa using h)
theorem refDown_all (a b : Int) (w : World) :
    Calls Tryz.prog 76 #[.agg #[.int .i64 a, .int .i64 b]] w fun e w' => e = .returned (.tuple #[.string ⟨(downR a b).1.toArray⟩, .int .i64 (downR a b).2]) ∧ Gr w w' := by
  by_cases h : mayB a b = true
  · rw [show downR a b = (downL a b, 0) by unfold downR; rw [if_pos h]]
    exact refDown_yes a b w h
  · rw [show downR a b = ([], 2) by unfold downR; rw [if_neg h]]
    exact refDown_no a b w (by simpa using h)

end Go.Proofs.YthgecojbggoniaaGreatDoor
namespace Go.Proofs.YthgecojbggoniaaGreatDoor
open Go
set_option linter.unusedVariables false
set_option linter.unusedSimpArgs false

theorem numW_nat {n : Nat} (h : n ≤ 9007199254740991) : numW (n : Int) = numT n := by
  unfold numW
  rw [if_pos (by omega)]
  simp
theorem valN_w {n : Nat} (h : n ≤ 9007199254740991) (x : List UInt8) (b : Bool) : valN (numT n ++ x, b) = n ∧ nextN (numT n ++ x, b) = (x, b) := by
  unfold valN nextN
  simp only [takeN_numT h x]
  simp
theorem valN_wi {n : Int} (h0 : 0 ≤ n) (h : n ≤ 9007199254740991) (x : List UInt8) (b : Bool) : (valN (numW n ++ x, b) : Int) = n ∧ nextN (numW n ++ x, b) = (x, b) := by
  obtain ⟨m, rfl⟩ := Int.eq_ofNat_of_zero_le h0
  have h' : m ≤ 9007199254740991 := by omega
  have e : numW (Int.ofNat m) = numT m := numW_nat h'
  have := valN_w h' x b
  simp only [Int.ofNat_eq_natCast] at e ⊢
  rw [e]
  exact ⟨by rw [this.1], this.2⟩
theorem valS_w {t : List UInt8} (h : t.length ≤ 64) (x : List UInt8) (b : Bool) : valS (strW t ++ x, b) = t ∧ nextS (strW t ++ x, b) = (x, b) := by
  unfold valS nextS
  simp only [takeS_strW h x]
  simp
def flagN (f : Bool) : Int := if f = true then 1 else 0
theorem valF_w (f : Bool) (x : List UInt8) (b : Bool) : valF (numW (flagN f) ++ x, b) = f ∧ nextF (numW (flagN f) ++ x, b) = (x, b) := by
  have h := valN_wi (n := flagN f) (by unfold flagN; split <;> omega) (by unfold flagN; split <;> omega) x b
  have hn : valN (numW (flagN f) ++ x, b) = if f = true then 1 else 0 := by
    have := h.1
    unfold flagN at this ⊢
    cases f <;> simp at this ⊢ <;> omega
  unfold valF nextF
  rw [h.2, hn]
  cases f <;> simp
def Fwd {α : Type} (f : St → α × St) (W : α → List UInt8) (P : α → Prop) : Prop := ∀ a x, P a → f (W a ++ x, false) = (a, (x, false))
theorem many_fwd {α : Type} {f : St → α × St} {W : α → List UInt8} {P : α → Prop} (h : Fwd f W P) : ∀ (l : List α) (x : List UInt8), (∀ a ∈ l, P a) → many f l.length (l.flatMap W ++ x, false) = (l, (x, false))
  | [], x, _ => by simp [many]
  | a :: r, x, hp => by
    rw [List.length_cons, many, if_neg (by simp), List.flatMap_cons, List.append_assoc, h a _ (hp a (by simp)), many_fwd h r x (fun b hb => hp b (by simp [hb]))]
def ChgP (c : Chg) : Prop := 0 ≤ c.seq ∧ c.seq ≤ 9007199254740991 ∧ c.value.size ≤ 64
theorem bytes_back (s : ByteArray) : (⟨s.data.toList.toArray⟩ : ByteArray) = s := by simp
theorem size_toArray (l : List UInt8) : (⟨l.toArray⟩ : ByteArray).size = l.length := by simp [ByteArray.size]
theorem toList_len (s : ByteArray) : s.data.toList.length = s.size := Array.length_toList
theorem chg_fwd : Fwd opP.chg chgW ChgP := by
  rintro ⟨seq, value, del⟩ x ⟨h1, h2, h3⟩
  simp only at h1 h2 h3
  have e : chgW ⟨seq, value, del⟩ ++ x = numW seq ++ (numW (flagN del) ++ (strW value.data.toList ++ x)) := by simp [chgW, flagN, List.append_assoc]
  rw [e]
  obtain ⟨a1, a2⟩ := valN_wi h1 h2 (numW (flagN del) ++ (strW value.data.toList ++ x)) false
  obtain ⟨b1, b2⟩ := valF_w del (strW value.data.toList ++ x) false
  obtain ⟨c1, c2⟩ := valS_w (t := value.data.toList) (by rw [toList_len]; exact h3) x false
  simp only [Ops.chg, opP]
  rw [a2, b2, c2, a1, b1, c1, bytes_back]
theorem headB_spec {id ep pr : Int} {an : ByteArray} {a b c d : Int} (h : headB id ep pr an [(a, b), (c, d)] = true) :
    (0 ≤ id ∧ id ≤ 9007199254740991) ∧ (0 ≤ ep ∧ ep ≤ 9007199254740991) ∧ (0 ≤ pr ∧ pr ≤ 9007199254740991) ∧ an.size ≤ 64 ∧ (0 ≤ a ∧ a ≤ 9007199254740991) ∧ (0 ≤ b ∧ b ≤ 9007199254740991) ∧ (0 ≤ c ∧ c ≤ 9007199254740991) ∧ (0 ≤ d ∧ d ≤ 9007199254740991) := by
  simp only [headB, plainB, idB, Bool.and_eq_true, decide_eq_true_eq, List.all_cons, List.all_nil, mayB, beq_iff_eq, Bool.and_true] at h
  obtain ⟨⟨⟨⟨⟨⟨⟨i1, i2⟩, h2⟩, h3⟩, h4⟩, h5⟩, h7⟩, h8⟩ := h
  have h9 : an.size ≤ 64 := by
    unfold checkE at h7
    split at h7
    · omega
    · cases h7
  omega
theorem chgsOk_all : ∀ (l : List Chg) (last : Int), 0 ≤ last → chgsOk last l = true → ∀ c ∈ l, ChgP c
  | [], _, _, _ => by simp
  | c :: r, last, h0, h => by
    simp only [chgsOk, Bool.and_eq_true, chgOk, decide_eq_true_eq] at h
    obtain ⟨⟨⟨⟨h1, h2⟩, h3⟩, h4⟩, h5⟩ := h
    intro d hd
    rcases List.mem_cons.1 hd with rfl | hd
    · exact ⟨by omega, h2, h3⟩
    · exact chgsOk_all r c.seq (by omega) h5 d hd
theorem itt_fwd {x : Itt} (h : headB x.id x.epoch x.prio x.anchor [(x.sw, x.sl), (x.bw, x.bl)] = true) (hl : x.l.length ≤ 9007199254740991) (y : List UInt8) :
    opP.itt (numW x.id ++ (numW x.epoch ++ (numW x.prio ++ (strW x.anchor.data.toList ++ (numW x.sw ++ (numW x.sl ++ (numW x.bw ++ (numW x.bl ++ (numW (x.l.length : Int) ++ y)))))))), false) = ({ x with l := [] }, x.l.length, (y, false)) := by
  obtain ⟨⟨a0, a1⟩, ⟨b0, b1⟩, ⟨c0, c1⟩, d1, ⟨e0, e1⟩, ⟨f0, f1⟩, ⟨g0, g1⟩, ⟨h0, h1⟩⟩ := headB_spec h
  simp only [Ops.itt, Ops.s4, opP]
  obtain ⟨p1, q1⟩ := valN_wi a0 a1 (numW x.epoch ++ (numW x.prio ++ (strW x.anchor.data.toList ++ (numW x.sw ++ (numW x.sl ++ (numW x.bw ++ (numW x.bl ++ (numW (x.l.length : Int) ++ y)))))))) false
  obtain ⟨p2, q2⟩ := valN_wi b0 b1 (numW x.prio ++ (strW x.anchor.data.toList ++ (numW x.sw ++ (numW x.sl ++ (numW x.bw ++ (numW x.bl ++ (numW (x.l.length : Int) ++ y))))))) false
  obtain ⟨p3, q3⟩ := valN_wi c0 c1 (strW x.anchor.data.toList ++ (numW x.sw ++ (numW x.sl ++ (numW x.bw ++ (numW x.bl ++ (numW (x.l.length : Int) ++ y)))))) false
  obtain ⟨p4, q4⟩ := valS_w (t := x.anchor.data.toList) (by rw [toList_len]; exact d1) (numW x.sw ++ (numW x.sl ++ (numW x.bw ++ (numW x.bl ++ (numW (x.l.length : Int) ++ y))))) false
  obtain ⟨p5, q5⟩ := valN_wi e0 e1 (numW x.sl ++ (numW x.bw ++ (numW x.bl ++ (numW (x.l.length : Int) ++ y)))) false
  obtain ⟨p6, q6⟩ := valN_wi f0 f1 (numW x.bw ++ (numW x.bl ++ (numW (x.l.length : Int) ++ y))) false
  obtain ⟨p7, q7⟩ := valN_wi g0 g1 (numW x.bl ++ (numW (x.l.length : Int) ++ y)) false
  obtain ⟨p8, q8⟩ := valN_wi h0 h1 (numW (x.l.length : Int) ++ y) false
  obtain ⟨p9, q9⟩ := valN_w hl y false
  rw [numW_nat hl] at *
  rw [q1, q2, q3, q4, q5, q6, q7, q8, q9, p1, p2, p3, p4, p5, p6, p7, p8, p9, bytes_back]
theorem ittW_flat (x : Itt) (y : List UInt8) : ittW x ++ y = numW x.id ++ (numW x.epoch ++ (numW x.prio ++ (strW x.anchor.data.toList ++ (numW x.sw ++ (numW x.sl ++ (numW x.bw ++ (numW x.bl ++ (numW (x.l.length : Int) ++ (x.l.flatMap chgW ++ y))))))))) := by simp [ittW, List.append_assoc]
theorem takeItt_fwd {x : Itt} (h : ittOk x = true) : takeIttR (ittW x) = some x := by
  have h' := h
  simp only [ittOk, Bool.and_eq_true, decide_eq_true_eq] at h'
  obtain ⟨⟨⟨h1, h2⟩, h3⟩, h4⟩ := h'
  have e := ittW_flat x []
  rw [List.append_nil, List.append_nil] at e
  have hi := itt_fwd h1 (by omega) (x.l.flatMap chgW)
  rw [← e] at hi
  have hm := many_fwd chg_fwd x.l [] (chgsOk_all x.l 0 (by omega) h4)
  rw [List.append_nil] at hm
  unfold takeIttR
  rw [hi]
  simp only
  rw [hm]
  simp only
  have ex : ({ x with l := x.l } : Itt) = x := rfl
  rw [h]
  simp [offE, okE]
end Go.Proofs.YthgecojbggoniaaGreatDoor
