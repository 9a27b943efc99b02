/- Plain words of layer 11: what is written is read, what is read was written so. No program in sight. -/
import Derived.Test.YtpnojkgdjkncbaaDoorPlainA
import Derived.Test.YtpnojkgdjkncbaaDoorCelD
namespace Go.Proofs.YtpnojkgdjkncbaaDoor
open Go
set_option linter.unusedVariables false
set_option linter.unusedSimpArgs false

theorem numW_nat {n : Nat} (h : n ≤ 9007199254740991) : numW (n : Int) = numT n := by
  unfold numW
  rw [if_pos (by omega)]
  simp
theorem valN_w {n : Nat} (h : n ≤ 9007199254740991) (x : List UInt8) (b : Bool) : valN (numT n ++ x, b) = n ∧ nextN (numT n ++ x, b) = (x, b) := by
  unfold valN nextN
  simp only [takeN_numT h x]
  simp
theorem valN_wi {n : Int} (h0 : 0 ≤ n) (h : n ≤ 9007199254740991) (x : List UInt8) (b : Bool) : (valN (numW n ++ x, b) : Int) = n ∧ nextN (numW n ++ x, b) = (x, b) := by
  obtain ⟨m, rfl⟩ := Int.eq_ofNat_of_zero_le h0
  have h' : m ≤ 9007199254740991 := by omega
  have e : numW (Int.ofNat m) = numT m := numW_nat h'
  have := valN_w h' x b
  simp only [Int.ofNat_eq_natCast] at e ⊢
  rw [e]
  exact ⟨by rw [this.1], this.2⟩
theorem nextN_inv {s : St} (h : (nextN s).2 = false) : s.2 = false ∧ s.1 = numW (valN s : Int) ++ (nextN s).1 ∧ valN s ≤ 9007199254740991 := by
  have hb := backN h
  have he : (takeN s.1).2.2 = 0 := by
    unfold nextN at h
    simp only [Bool.or_eq_false_iff, decide_eq_false_iff_not, Decidable.not_not] at h
    exact h.2
  have := takeN_inv (l := s.1) (n := valN s) (r := (nextN s).1) (by unfold valN nextN; simp only; rw [← he])
  exact ⟨hb, by rw [numW_nat this.2]; exact this.1, this.2⟩
theorem valS_w {t : List UInt8} (h : t.length ≤ 64) (x : List UInt8) (b : Bool) : valS (strW t ++ x, b) = t ∧ nextS (strW t ++ x, b) = (x, b) := by
  unfold valS nextS
  simp only [takeS_strW h x]
  simp
theorem nextS_inv {s : St} (h : (nextS s).2 = false) : s.2 = false ∧ s.1 = strW (valS s) ++ (nextS s).1 ∧ (valS s).length ≤ 64 := by
  have hb := backS h
  have he : (takeS s.1).2.2 = 0 := by
    unfold nextS at h
    simp only [Bool.or_eq_false_iff, decide_eq_false_iff_not, Decidable.not_not] at h
    exact h.2
  have := takeS_inv (l := s.1) (s := valS s) (r := (nextS s).1) (by unfold valS nextS; simp only; rw [← he])
  exact ⟨hb, this.1, this.2⟩
def flagN (f : Bool) : Int := if f = true then 1 else 0
theorem valF_w (f : Bool) (x : List UInt8) (b : Bool) : valF (numW (flagN f) ++ x, b) = f ∧ nextF (numW (flagN f) ++ x, b) = (x, b) := by
  have h := valN_wi (n := flagN f) (by unfold flagN; split <;> omega) (by unfold flagN; split <;> omega) x b
  have hn : valN (numW (flagN f) ++ x, b) = if f = true then 1 else 0 := by
    have := h.1
    unfold flagN at this ⊢
    cases f <;> simp at this ⊢ <;> omega
  unfold valF nextF
  rw [h.2, hn]
  cases f <;> simp
theorem nextF_inv {s : St} (h : (nextF s).2 = false) : s.2 = false ∧ s.1 = numW (flagN (valF s)) ++ (nextF s).1 := by
  obtain ⟨h1, h2⟩ := nextF_false h
  obtain ⟨_, h3, _⟩ := nextN_inv h1
  have h4 : valN s ≤ 1 := by
    unfold nextF at h
    simp only [Bool.or_eq_false_iff, decide_eq_false_iff_not] at h
    omega
  refine ⟨h2, ?_⟩
  have e : (valN s : Int) = flagN (valF s) := by
    unfold flagN valF
    by_cases h5 : valN s = 1
    · simp [h5]
    · simp [h5]; omega
  rw [← e]
  exact h3

def Fwd {α : Type} (f : St → α × St) (W : α → List UInt8) (P : α → Prop) : Prop := ∀ a x, P a → f (W a ++ x, false) = (a, (x, false))
def Bwd {α : Type} (f : St → α × St) (W : α → List UInt8) (P : α → Prop) : Prop := ∀ s, (f s).2.2 = false → s.2 = false ∧ s.1 = W (f s).1 ++ (f s).2.1 ∧ P (f s).1
theorem many_fwd {α : Type} {f : St → α × St} {W : α → List UInt8} {P : α → Prop} (h : Fwd f W P) : ∀ (l : List α) (x : List UInt8), (∀ a ∈ l, P a) → many f l.length (l.flatMap W ++ x, false) = (l, (x, false))
  | [], x, _ => by simp [many]
  | a :: r, x, hp => by
    rw [List.length_cons, many, if_neg (by simp), List.flatMap_cons, List.append_assoc, h a _ (hp a (by simp)), many_fwd h r x (fun b hb => hp b (by simp [hb]))]
theorem many_bwd {α : Type} {f : St → α × St} {W : α → List UInt8} {P : α → Prop} (h : Bwd f W P) : ∀ (n : Nat) (s : St), (many f n s).2.2 = false → s.2 = false ∧ s.1 = (many f n s).1.flatMap W ++ (many f n s).2.1 ∧ ∀ a ∈ (many f n s).1, P a
  | 0, s, hs => ⟨hs, by simp [many], by simp [many]⟩
  | n + 1, s, hs => by
    cases hb : s.2 with
    | true => rw [many_bad f _ s hb] at hs; rw [hb] at hs; cases hs
    | false =>
      rw [many, if_neg (by rw [hb]; simp)] at hs ⊢
      obtain ⟨h1, h2, h3⟩ := many_bwd h n _ hs
      obtain ⟨h4, h5, h6⟩ := h s h1
      refine ⟨rfl, ?_, fun a ha => ?_⟩
      · simp only [List.flatMap_cons, List.append_assoc]
        rw [← h2]
        exact h5
      · rcases List.mem_cons.1 ha with rfl | ha
        · exact h6
        · exact h3 a ha

def ChgP (c : Chg) : Prop := 0 ≤ c.seq ∧ c.seq ≤ 9007199254740991 ∧ c.value.size ≤ 64
theorem bytes_back (s : ByteArray) : (⟨s.data.toList.toArray⟩ : ByteArray) = s := by simp
theorem size_toArray (l : List UInt8) : (⟨l.toArray⟩ : ByteArray).size = l.length := by simp [ByteArray.size]
theorem toList_len (s : ByteArray) : s.data.toList.length = s.size := Array.length_toList
theorem chg_fwd : Fwd opP.chg chgW ChgP := by
  rintro ⟨seq, value, del⟩ x ⟨h1, h2, h3⟩
  simp only at h1 h2 h3
  have e : chgW ⟨seq, value, del⟩ ++ x = numW seq ++ (numW (flagN del) ++ (strW value.data.toList ++ x)) := by simp [chgW, flagN, List.append_assoc]
  rw [e]
  obtain ⟨a1, a2⟩ := valN_wi h1 h2 (numW (flagN del) ++ (strW value.data.toList ++ x)) false
  obtain ⟨b1, b2⟩ := valF_w del (strW value.data.toList ++ x) false
  obtain ⟨c1, c2⟩ := valS_w (t := value.data.toList) (by rw [toList_len]; exact h3) x false
  simp only [Ops.chg, opP]
  rw [a2, b2, c2, a1, b1, c1, bytes_back]
theorem chg_bwd : Bwd opP.chg chgW ChgP := by
  intro s h
  have hs : (nextS (nextF (nextN s))).2 = false := h
  obtain ⟨c1, c2, c3⟩ := nextS_inv hs
  obtain ⟨b1, b2⟩ := nextF_inv c1
  obtain ⟨a1, a2, a3⟩ := nextN_inv b1
  refine ⟨a1, ?_, ⟨by simp [Ops.chg, opP], by simp only [Ops.chg, opP]; omega, by simp only [Ops.chg, opP]; rw [size_toArray]; exact c3⟩⟩
  simp only [Ops.chg, opP, chgW]
  rw [a2, b2, c2]
  simp [flagN, List.append_assoc] <;> rfl
def WrtP (c : Wrt) : Prop := 0 ≤ c.seq ∧ c.seq ≤ 9007199254740991 ∧ c.key.size ≤ 64
theorem wrt_fwd : Fwd opP.wrt wrtW WrtP := by
  rintro ⟨key, seq⟩ x ⟨h1, h2, h3⟩
  simp only at h1 h2 h3
  have e : wrtW ⟨key, seq⟩ ++ x = strW key.data.toList ++ (numW seq ++ x) := by simp [wrtW, List.append_assoc]
  rw [e]
  obtain ⟨c1, c2⟩ := valS_w (t := key.data.toList) (by rw [toList_len]; exact h3) (numW seq ++ x) false
  obtain ⟨a1, a2⟩ := valN_wi h1 h2 x false
  simp only [Ops.wrt, opP]
  rw [c2, a2, a1, c1, bytes_back]
theorem wrt_bwd : Bwd opP.wrt wrtW WrtP := by
  intro s h
  have hs : (nextN (nextS s)).2 = false := h
  obtain ⟨a1, a2, a3⟩ := nextN_inv hs
  obtain ⟨c1, c2, c3⟩ := nextS_inv a1
  refine ⟨c1, ?_, ⟨by simp [Ops.wrt, opP], by simp only [Ops.wrt, opP]; omega, by simp only [Ops.wrt, opP]; rw [size_toArray]; exact c3⟩⟩
  simp only [Ops.wrt, opP, wrtW]
  rw [c2, a2]
  simp [List.append_assoc]

theorem offE_zero {s : St} {e : Int} (h : offE s e = 0) : s = ([], false) ∧ e = 0 := by
  unfold offE at h
  obtain ⟨l, b⟩ := s
  by_cases hc : (l, b).2 = true ∨ (l, b).1 ≠ [] ∨ e ≠ 0
  · rw [if_pos hc] at h; cases h
  · simp only [not_or, Decidable.not_not] at hc
    obtain ⟨h1, h2, h3⟩ := hc
    exact ⟨by simp at h1; rw [h1, h2], h3⟩
theorem okE_zero {b : Bool} (h : okE b = 0) : b = true := by
  cases b with
  | true => rfl
  | false => simp [okE] at h
theorem idB_spec {n : Int} (h : idB n = true) : 0 ≤ n ∧ n ≤ 9007199254740991 := by
  simp only [idB, Bool.and_eq_true, decide_eq_true_eq] at h
  omega
theorem headB_spec {id ep pr : Int} {an : ByteArray} {a b c d : Int} (h : headB id ep pr an [(a, b), (c, d)] = true) :
    (0 ≤ id ∧ id ≤ 9007199254740991) ∧ (0 ≤ ep ∧ ep ≤ 9007199254740991) ∧ (0 ≤ pr ∧ pr ≤ 9007199254740991) ∧ an.size ≤ 64 ∧ (0 ≤ a ∧ a ≤ 9007199254740991) ∧ (0 ≤ b ∧ b ≤ 9007199254740991) ∧ (0 ≤ c ∧ c ≤ 9007199254740991) ∧ (0 ≤ d ∧ d ≤ 9007199254740991) := by
  simp only [headB, plainB, idB, Bool.and_eq_true, decide_eq_true_eq, List.all_cons, List.all_nil, mayB, beq_iff_eq, Bool.and_true] at h
  obtain ⟨⟨⟨⟨⟨⟨⟨i1, i2⟩, h2⟩, h3⟩, h4⟩, h5⟩, h7⟩, h8⟩ := h
  have h9 : an.size ≤ 64 := by
    unfold checkE at h7
    split at h7
    · omega
    · cases h7
  omega
theorem chgsOk_all : ∀ (l : List Chg) (last : Int), 0 ≤ last → chgsOk last l = true → ∀ c ∈ l, ChgP c
  | [], _, _, _ => by simp
  | c :: r, last, h0, h => by
    simp only [chgsOk, Bool.and_eq_true, chgOk, decide_eq_true_eq] at h
    obtain ⟨⟨⟨⟨h1, h2⟩, h3⟩, h4⟩, h5⟩ := h
    intro d hd
    rcases List.mem_cons.1 hd with rfl | hd
    · exact ⟨by omega, h2, h3⟩
    · exact chgsOk_all r c.seq (by omega) h5 d hd
theorem wrtsOk_all : ∀ (l : List Wrt) (last : ByteArray), wrtsOk last l = true → ∀ c ∈ l, WrtP c
  | [], _, _ => by simp
  | c :: r, last, h => by
    simp only [wrtsOk, Bool.and_eq_true, wrtOk, beq_iff_eq] at h
    obtain ⟨⟨⟨h1, h2⟩, h3⟩, h5⟩ := h
    intro d hd
    rcases List.mem_cons.1 hd with rfl | hd
    · have := idB_spec h3
      refine ⟨this.1, this.2, ?_⟩
      unfold checkE at h1
      split at h1
      · omega
      · cases h1
    · exact wrtsOk_all r c.key h5 d hd

theorem itt_fwd {x : Itt} (h : headB x.id x.epoch x.prio x.anchor [(x.sw, x.sl), (x.bw, x.bl)] = true) (hl : x.l.length ≤ 9007199254740991) (y : List UInt8) :
    opP.itt (numW x.id ++ (numW x.epoch ++ (numW x.prio ++ (strW x.anchor.data.toList ++ (numW x.sw ++ (numW x.sl ++ (numW x.bw ++ (numW x.bl ++ (numW (x.l.length : Int) ++ y)))))))), false) = ({ x with l := [] }, x.l.length, (y, false)) := by
  obtain ⟨⟨a0, a1⟩, ⟨b0, b1⟩, ⟨c0, c1⟩, d1, ⟨e0, e1⟩, ⟨f0, f1⟩, ⟨g0, g1⟩, ⟨h0, h1⟩⟩ := headB_spec h
  simp only [Ops.itt, Ops.s4, opP]
  obtain ⟨p1, q1⟩ := valN_wi a0 a1 (numW x.epoch ++ (numW x.prio ++ (strW x.anchor.data.toList ++ (numW x.sw ++ (numW x.sl ++ (numW x.bw ++ (numW x.bl ++ (numW (x.l.length : Int) ++ y)))))))) false
  obtain ⟨p2, q2⟩ := valN_wi b0 b1 (numW x.prio ++ (strW x.anchor.data.toList ++ (numW x.sw ++ (numW x.sl ++ (numW x.bw ++ (numW x.bl ++ (numW (x.l.length : Int) ++ y))))))) false
  obtain ⟨p3, q3⟩ := valN_wi c0 c1 (strW x.anchor.data.toList ++ (numW x.sw ++ (numW x.sl ++ (numW x.bw ++ (numW x.bl ++ (numW (x.l.length : Int) ++ y)))))) false
  obtain ⟨p4, q4⟩ := valS_w (t := x.anchor.data.toList) (by rw [toList_len]; exact d1) (numW x.sw ++ (numW x.sl ++ (numW x.bw ++ (numW x.bl ++ (numW (x.l.length : Int) ++ y))))) false
  obtain ⟨p5, q5⟩ := valN_wi e0 e1 (numW x.sl ++ (numW x.bw ++ (numW x.bl ++ (numW (x.l.length : Int) ++ y)))) false
  obtain ⟨p6, q6⟩ := valN_wi f0 f1 (numW x.bw ++ (numW x.bl ++ (numW (x.l.length : Int) ++ y))) false
  obtain ⟨p7, q7⟩ := valN_wi g0 g1 (numW x.bl ++ (numW (x.l.length : Int) ++ y)) false
  obtain ⟨p8, q8⟩ := valN_wi h0 h1 (numW (x.l.length : Int) ++ y) false
  obtain ⟨p9, q9⟩ := valN_w hl y false
  rw [numW_nat hl] at *
  rw [q1, q2, q3, q4, q5, q6, q7, q8, q9, p1, p2, p3, p4, p5, p6, p7, p8, p9, bytes_back]
theorem itt_bwd {s : St} (h : (opP.itt s).2.2.2 = false) : s.2 = false ∧ s.1 = numW (opP.itt s).1.id ++ (numW (opP.itt s).1.epoch ++ (numW (opP.itt s).1.prio ++ (strW (opP.itt s).1.anchor.data.toList ++ (numW (opP.itt s).1.sw ++ (numW (opP.itt s).1.sl ++ (numW (opP.itt s).1.bw ++ (numW (opP.itt s).1.bl ++ (numW ((opP.itt s).2.1 : Int) ++ (opP.itt s).2.2.1)))))))) ∧ (opP.itt s).2.1 ≤ 9007199254740991 := by
  simp only [Ops.itt, Ops.s4, opP] at h ⊢
  obtain ⟨h9, e9, b9⟩ := nextN_inv h
  obtain ⟨h8, e8, b8⟩ := nextN_inv h9
  obtain ⟨h7, e7, b7⟩ := nextN_inv h8
  obtain ⟨h6, e6, b6⟩ := nextN_inv h7
  obtain ⟨h5, e5, b5⟩ := nextN_inv h6
  obtain ⟨h4, e4, b4⟩ := nextS_inv h5
  obtain ⟨h3, e3, b3⟩ := nextN_inv h4
  obtain ⟨h2, e2, b2⟩ := nextN_inv h3
  obtain ⟨h1, e1, b1⟩ := nextN_inv h2
  exact ⟨h1, by rw [← e9, ← e8, ← e7, ← e6, ← e5, ← e4, ← e3, ← e2, ← e1], b9⟩
theorem ittW_flat (x : Itt) (y : List UInt8) : ittW x ++ y = numW x.id ++ (numW x.epoch ++ (numW x.prio ++ (strW x.anchor.data.toList ++ (numW x.sw ++ (numW x.sl ++ (numW x.bw ++ (numW x.bl ++ (numW (x.l.length : Int) ++ (x.l.flatMap chgW ++ y))))))))) := by simp [ittW, List.append_assoc]
theorem takeItt_fwd {x : Itt} (h : ittOk x = true) : takeIttR (ittW x) = some x := by
  have h' := h
  simp only [ittOk, Bool.and_eq_true, decide_eq_true_eq] at h'
  obtain ⟨⟨⟨h1, h2⟩, h3⟩, h4⟩ := h'
  have e := ittW_flat x []
  rw [List.append_nil, List.append_nil] at e
  have hi := itt_fwd h1 (by omega) (x.l.flatMap chgW)
  rw [← e] at hi
  have hm := many_fwd chg_fwd x.l [] (chgsOk_all x.l 0 (by omega) h4)
  rw [List.append_nil] at hm
  unfold takeIttR
  rw [hi]
  simp only
  rw [hm]
  simp only
  have ex : ({ x with l := x.l } : Itt) = x := rfl
  rw [h]
  simp [offE, okE]
theorem takeItt_bwd {l : List UInt8} {x : Itt} (h : takeIttR l = some x) : ittOk x = true ∧ ittW x = l := by
  unfold takeIttR at h
  split at h
  case isFalse => cases h
  case isTrue h0 =>
    simp only [Option.some.injEq] at h
    obtain ⟨h1, h2⟩ := offE_zero h0
    have h3 := okE_zero h2
    rw [h] at h3
    refine ⟨h3, ?_⟩
    obtain ⟨m1, m2, _⟩ := many_bwd chg_bwd _ _ (by rw [h1])
    obtain ⟨i1, i2, i3⟩ := itt_bwd (s := (l, false)) m1
    have hlen := many_length opP.chg (opP.itt (l, false)).2.1 (opP.itt (l, false)).2.2 (by rw [h1])
    rw [h1] at m2
    have e := ittW_flat x []
    rw [List.append_nil, List.append_nil] at e
    rw [e, ← h]
    simp only
    rw [hlen]
    simp only at i2
    rw [List.append_nil] at m2
    rw [← m2]
    exact i2.symm

theorem recd_fwd {x : Rec} (h : headB x.id x.epoch x.prio x.anchor [(x.sw, x.sl), (x.bw, x.bl)] = true) (hs : 1 ≤ x.status ∧ x.status ≤ 4) (hl : x.l.length ≤ 9007199254740991) (y : List UInt8) :
    opP.recd (numW x.id ++ (numW x.epoch ++ (numW x.status ++ (numW x.prio ++ (strW x.anchor.data.toList ++ (numW x.sw ++ (numW x.sl ++ (numW x.bw ++ (numW x.bl ++ (numW (x.l.length : Int) ++ y))))))))), false) = ({ x with l := [] }, x.l.length, (y, false)) := by
  obtain ⟨⟨a0, a1⟩, ⟨b0, b1⟩, ⟨c0, c1⟩, d1, ⟨e0, e1⟩, ⟨f0, f1⟩, ⟨g0, g1⟩, ⟨h0, h1⟩⟩ := headB_spec h
  simp only [Ops.recd, Ops.s4, opP]
  obtain ⟨p1, q1⟩ := valN_wi a0 a1 (numW x.epoch ++ (numW x.status ++ (numW x.prio ++ (strW x.anchor.data.toList ++ (numW x.sw ++ (numW x.sl ++ (numW x.bw ++ (numW x.bl ++ (numW (x.l.length : Int) ++ y))))))))) false
  obtain ⟨p2, q2⟩ := valN_wi b0 b1 (numW x.status ++ (numW x.prio ++ (strW x.anchor.data.toList ++ (numW x.sw ++ (numW x.sl ++ (numW x.bw ++ (numW x.bl ++ (numW (x.l.length : Int) ++ y)))))))) false
  obtain ⟨p0, q0⟩ := valN_wi (n := x.status) (by omega) (by omega) (numW x.prio ++ (strW x.anchor.data.toList ++ (numW x.sw ++ (numW x.sl ++ (numW x.bw ++ (numW x.bl ++ (numW (x.l.length : Int) ++ y))))))) false
  obtain ⟨p3, q3⟩ := valN_wi c0 c1 (strW x.anchor.data.toList ++ (numW x.sw ++ (numW x.sl ++ (numW x.bw ++ (numW x.bl ++ (numW (x.l.length : Int) ++ y)))))) false
  obtain ⟨p4, q4⟩ := valS_w (t := x.anchor.data.toList) (by rw [toList_len]; exact d1) (numW x.sw ++ (numW x.sl ++ (numW x.bw ++ (numW x.bl ++ (numW (x.l.length : Int) ++ y))))) false
  obtain ⟨p5, q5⟩ := valN_wi e0 e1 (numW x.sl ++ (numW x.bw ++ (numW x.bl ++ (numW (x.l.length : Int) ++ y)))) false
  obtain ⟨p6, q6⟩ := valN_wi f0 f1 (numW x.bw ++ (numW x.bl ++ (numW (x.l.length : Int) ++ y))) false
  obtain ⟨p7, q7⟩ := valN_wi g0 g1 (numW x.bl ++ (numW (x.l.length : Int) ++ y)) false
  obtain ⟨p8, q8⟩ := valN_wi h0 h1 (numW (x.l.length : Int) ++ y) false
  obtain ⟨p9, q9⟩ := valN_w hl y false
  rw [numW_nat hl] at *
  rw [q1, q2, q0, q3, q4, q5, q6, q7, q8, q9, p1, p2, p0, p3, p4, p5, p6, p7, p8, p9, bytes_back]
theorem recd_bwd {s : St} (h : (opP.recd s).2.2.2 = false) : s.2 = false ∧ s.1 = numW (opP.recd s).1.id ++ (numW (opP.recd s).1.epoch ++ (numW (opP.recd s).1.status ++ (numW (opP.recd s).1.prio ++ (strW (opP.recd s).1.anchor.data.toList ++ (numW (opP.recd s).1.sw ++ (numW (opP.recd s).1.sl ++ (numW (opP.recd s).1.bw ++ (numW (opP.recd s).1.bl ++ (numW ((opP.recd s).2.1 : Int) ++ (opP.recd s).2.2.1))))))))) := by
  simp only [Ops.recd, Ops.s4, opP] at h ⊢
  obtain ⟨h9, e9, b9⟩ := nextN_inv h
  obtain ⟨h8, e8, b8⟩ := nextN_inv h9
  obtain ⟨h7, e7, b7⟩ := nextN_inv h8
  obtain ⟨h6, e6, b6⟩ := nextN_inv h7
  obtain ⟨h5, e5, b5⟩ := nextN_inv h6
  obtain ⟨h4, e4, b4⟩ := nextS_inv h5
  obtain ⟨h3, e3, b3⟩ := nextN_inv h4
  obtain ⟨h0, e0, b0⟩ := nextN_inv h3
  obtain ⟨h2, e2, b2⟩ := nextN_inv h0
  obtain ⟨h1, e1, b1⟩ := nextN_inv h2
  exact ⟨h1, by rw [← e9, ← e8, ← e7, ← e6, ← e5, ← e4, ← e3, ← e0, ← e2, ← e1]⟩
def recW (x : Rec) : List UInt8 := recH x ++ x.l.flatMap wrtW
theorem recW_flat (x : Rec) (y : List UInt8) : recW x ++ y = numW x.id ++ (numW x.epoch ++ (numW x.status ++ (numW x.prio ++ (strW x.anchor.data.toList ++ (numW x.sw ++ (numW x.sl ++ (numW x.bw ++ (numW x.bl ++ (numW (x.l.length : Int) ++ (x.l.flatMap wrtW ++ y)))))))))) := by simp [recW, recH, List.append_assoc]
theorem takeRec_fwd {x : Rec} (h : recOk x = true) : takeRecR (recW x) = some x := by
  have h' := h
  simp only [recOk, preB, Bool.and_eq_true, decide_eq_true_eq] at h'
  obtain ⟨⟨⟨⟨⟨h1, h2⟩, h3⟩, h4⟩, h5⟩, h6⟩ := h'
  have e := recW_flat x []
  rw [List.append_nil, List.append_nil] at e
  have hi := recd_fwd h1 ⟨h2, h3⟩ (by omega) (x.l.flatMap wrtW)
  rw [← e] at hi
  have hm := many_fwd wrt_fwd x.l [] (wrtsOk_all x.l _ h6)
  rw [List.append_nil] at hm
  unfold takeRecR
  rw [hi]
  simp only
  rw [hm]
  simp only
  rw [h]
  simp [offE, okE]
theorem takeRec_bwd {l : List UInt8} {x : Rec} (h : takeRecR l = some x) : recOk x = true ∧ recW x = l := by
  unfold takeRecR at h
  split at h
  case isFalse => cases h
  case isTrue h0 =>
    simp only [Option.some.injEq] at h
    obtain ⟨h1, h2⟩ := offE_zero h0
    have h3 := okE_zero h2
    rw [h] at h3
    refine ⟨h3, ?_⟩
    obtain ⟨m1, m2, _⟩ := many_bwd wrt_bwd _ _ (by rw [h1])
    obtain ⟨i1, i2⟩ := recd_bwd (s := (l, false)) m1
    have hlen := many_length opP.wrt (opP.recd (l, false)).2.1 (opP.recd (l, false)).2.2 (by rw [h1])
    rw [h1] at m2
    have e := recW_flat x []
    rw [List.append_nil, List.append_nil] at e
    rw [e, ← h]
    simp only
    rw [hlen]
    simp only at i2
    rw [List.append_nil] at m2
    rw [← m2]
    exact i2.symm

/-- versions -/
theorem takeVer_fwd {s : List UInt8} {is : Bool} (h : okV s is = true) : takeVerR (versionW s is) = (s, is, 0) := by
  have hW : versionW s is = if is = true then numW 1 ++ strW s else numW 0 := by unfold versionW; rw [if_pos h]
  rw [hW]
  simp only [okV, Bool.and_eq_true, decide_eq_true_eq, Bool.or_eq_true] at h
  obtain ⟨h1, h2⟩ := h
  cases is with
  | true =>
    rw [if_pos rfl]
    have a := valF_w true (strW s) false
    have b := valS_w h1 [] false
    rw [List.append_nil] at b
    have e : numW (flagN true) = numW 1 := rfl
    rw [e] at a
    unfold takeVerR verR
    rw [a.1, a.2, if_pos rfl, b.1, b.2]
    simp [offE]
  | false =>
    rw [if_neg (by simp)]
    have hs : s = [] := by rcases h2 with h | h; cases h; simpa using h
    subst hs
    have a := valF_w false [] false
    rw [List.append_nil] at a
    have e : numW (flagN false) = numW 0 := rfl
    rw [e] at a
    unfold takeVerR verR
    rw [a.1, a.2]
    simp [offE]
theorem takeVer_bwd {l s : List UInt8} {is : Bool} (h : takeVerR l = (s, is, 0)) : okV s is = true ∧ versionW s is = l := by
  unfold takeVerR at h
  split at h
  case isFalse => simp at h
  case isTrue h0 =>
    obtain ⟨h1, _⟩ := offE_zero h0
    simp only [Prod.mk.injEq, and_true] at h
    obtain ⟨rfl, rfl⟩ := h
    unfold verR at h1
    by_cases hv : valF (l, false) = true
    · rw [if_pos hv] at h1
      obtain ⟨a1, a2, a3⟩ := nextS_inv (s := nextF (l, false)) (by rw [h1])
      obtain ⟨b1, b2⟩ := nextF_inv a1
      have hk : okV (valS (nextF (l, false))) true = true := by simp [okV, a3]
      rw [if_pos hv, hv]
      refine ⟨hk, ?_⟩
      unfold versionW
      rw [if_pos hk, if_pos rfl]
      rw [h1] at a2
      rw [hv, a2] at b2
      simpa [flagN] using b2.symm
    · rw [if_neg hv] at h1
      obtain ⟨b1, b2⟩ := nextF_inv (s := (l, false)) (by rw [h1])
      have hv' : valF (l, false) = false := by simpa using hv
      rw [hv'] at b2 ⊢
      have hk : okV [] false = true := by simp [okV]
      refine ⟨hk, ?_⟩
      simp only [Bool.false_eq_true, if_false]
      unfold versionW
      rw [if_pos hk, if_neg (by simp)]
      rw [h1] at b2
      simpa [flagN] using b2.symm
theorem takeStamp_bwd {l : List UInt8} {a b : Nat} {ck : Int → Int → Int} (h : takeStampR l ck = (a, b, 0)) : ck a b = 0 ∧ stampW (a, b) = l := by
  unfold takeStampR at h
  split at h
  case isFalse => simp at h
  case isTrue h0 =>
    obtain ⟨h1, h2⟩ := offE_zero h0
    simp only [Prod.mk.injEq, and_true] at h
    obtain ⟨rfl, rfl⟩ := h
    refine ⟨h2, ?_⟩
    unfold st2 at h1
    obtain ⟨a1, a2, a3⟩ := nextN_inv (s := nextN (l, false)) (by rw [h1])
    obtain ⟨b1, b2, b3⟩ := nextN_inv a1
    rw [h1] at a2
    rw [a2] at b2
    simpa [stampW] using b2.symm
end Go.Proofs.YtpnojkgdjkncbaaDoor
