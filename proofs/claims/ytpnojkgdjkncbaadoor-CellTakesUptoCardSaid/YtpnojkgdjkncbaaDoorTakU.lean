/- Plain words of layer 11: what a text says as a record: both sides answer alike. -/
import Derived.Test.YtpnojkgdjkncbaaDoorTakT
namespace Go.Proofs.YtpnojkgdjkncbaaDoor
open Go
set_option linter.unusedVariables false
set_option linter.unusedSimpArgs false

theorem rec32 {x : Rec} (h : recOk x = true) : x.l.length ≤ 32 := by
  simp only [recOk, preB, Bool.and_eq_true, decide_eq_true_eq] at h
  exact h.1.1.2
def takeRecR (l : List UInt8) : Option Rec :=
  if offE (many opP.wrt (opP.recd (l, false)).2.1 (opP.recd (l, false)).2.2).2 (okE (recOk { (opP.recd (l, false)).1 with l := (many opP.wrt (opP.recd (l, false)).2.1 (opP.recd (l, false)).2.2).1 })) = 0 then
    some { (opP.recd (l, false)).1 with l := (many opP.wrt (opP.recd (l, false)).2.1 (opP.recd (l, false)).2.2).1 } else none
def takeRecD (l : List UInt8) : Option Rec :=
  if endB (many opD.wrt (min (opD.recd (l, false)).2.1 33) (opD.recd (l, false)).2.2).2 = true ∧ (opD.recd (l, false)).2.1 = (many opD.wrt (min (opD.recd (l, false)).2.1 33) (opD.recd (l, false)).2.2).1.length
      ∧ recOk { (opD.recd (l, false)).1 with l := (many opD.wrt (min (opD.recd (l, false)).2.1 33) (opD.recd (l, false)).2.2).1 } = true then
    some { (opD.recd (l, false)).1 with l := (many opD.wrt (min (opD.recd (l, false)).2.1 33) (opD.recd (l, false)).2.2).1 } else none
theorem takeRec_eq (l : List UInt8) : takeRecD l = takeRecR l := by
  obtain ⟨hs, he⟩ := rec_alike (Sim.refl l false)
  unfold takeRecD takeRecR
  revert hs he
  generalize opP.recd (l, false) = p
  generalize opD.recd (l, false) = d
  obtain ⟨x, n, s⟩ := p
  obtain ⟨y, m, t⟩ := d
  simp only
  intro hs he
  cases hb : s.2 with
  | true =>
    have ht : t.2 = true := by rw [← hs.bad, hb]
    rw [many_bad _ _ s hb, many_bad _ _ t ht]
    simp only
    rw [offE_bad _ hb, endB_bad ht]
    simp
  | false =>
    obtain ⟨rfl, rfl⟩ := he hb
    by_cases hn : n ≤ 32
    · rw [Nat.min_eq_left (by omega)]
      obtain ⟨h1, h2⟩ := many_alike wrt_alike n s t hs
      cases hc : (many opP.wrt n s).2.2 with
      | true =>
        rw [offE_bad _ hc, endB_bad (by rw [← h1.bad, hc])]
        simp
      | false =>
        have h3 := h2 hc
        have h4 := many_length _ _ _ hc
        have h5 := h1.end
        rw [← h3, h4]
        cases hok : recOk { x with l := (many opP.wrt n s).1 } with
        | true =>
          rw [h5]
          simp [okE]
        | false => simp [okE, offE]
    · have hP : offE (many opP.wrt n s).2 (okE (recOk { x with l := (many opP.wrt n s).1 })) ≠ 0 := by
        intro h0
        cases hc : (many opP.wrt n s).2.2 with
        | true => rw [offE_bad _ hc] at h0; simp at h0
        | false =>
          have h4 := many_length _ _ _ hc
          cases hok : recOk { x with l := (many opP.wrt n s).1 } with
          | true => have := rec32 hok; simp only at this; omega
          | false => rw [hok] at h0; simp [okE, offE] at h0
      rw [if_neg hP, if_neg]
      rintro ⟨h1, h2, h3⟩
      have := rec32 h3
      simp only at this
      omega
end Go.Proofs.YtpnojkgdjkncbaaDoor
