/- Plain words of layer 11: what a text says as an intent: both sides answer alike. -/
import Derived.Test.YtpnojkgdjkncbaaDoorTakS
namespace Go.Proofs.YtpnojkgdjkncbaaDoor
open Go
set_option linter.unusedVariables false
set_option linter.unusedSimpArgs false

theorem itt16 {x : Itt} (h : ittOk x = true) : x.l.length ≤ 16 := by
  simp only [ittOk, Bool.and_eq_true, decide_eq_true_eq] at h
  exact h.1.2
def takeIttR (l : List UInt8) : Option Itt :=
  if offE (many opP.chg (opP.itt (l, false)).2.1 (opP.itt (l, false)).2.2).2 (okE (ittOk { (opP.itt (l, false)).1 with l := (many opP.chg (opP.itt (l, false)).2.1 (opP.itt (l, false)).2.2).1 })) = 0 then
    some { (opP.itt (l, false)).1 with l := (many opP.chg (opP.itt (l, false)).2.1 (opP.itt (l, false)).2.2).1 } else none
def takeIttD (l : List UInt8) : Option Itt :=
  if endB (many opD.chg (min (opD.itt (l, false)).2.1 17) (opD.itt (l, false)).2.2).2 = true ∧ (opD.itt (l, false)).2.1 = (many opD.chg (min (opD.itt (l, false)).2.1 17) (opD.itt (l, false)).2.2).1.length
      ∧ ittOk { (opD.itt (l, false)).1 with l := (many opD.chg (min (opD.itt (l, false)).2.1 17) (opD.itt (l, false)).2.2).1 } = true then
    some { (opD.itt (l, false)).1 with l := (many opD.chg (min (opD.itt (l, false)).2.1 17) (opD.itt (l, false)).2.2).1 } else none
theorem offE_bad {s : St} (e : Int) (h : s.2 = true) : offE s e = 4 := by simp [offE, h]
theorem endB_bad {s : St} (h : s.2 = true) : endB s = false := by simp [endB, h]
theorem takeItt_eq (l : List UInt8) : takeIttD l = takeIttR l := by
  obtain ⟨hs, he⟩ := itt_alike (Sim.refl l false)
  unfold takeIttD takeIttR
  revert hs he
  generalize opP.itt (l, false) = p
  generalize opD.itt (l, false) = d
  obtain ⟨x, n, s⟩ := p
  obtain ⟨y, m, t⟩ := d
  simp only
  intro hs he
  cases hb : s.2 with
  | true =>
    have ht : t.2 = true := by rw [← hs.bad, hb]
    rw [many_bad _ _ s hb, many_bad _ _ t ht]
    simp only
    rw [offE_bad _ hb, endB_bad ht]
    simp
  | false =>
    obtain ⟨rfl, rfl⟩ := he hb
    by_cases hn : n ≤ 16
    · rw [Nat.min_eq_left (by omega)]
      obtain ⟨h1, h2⟩ := many_alike chg_alike n s t hs
      cases hc : (many opP.chg n s).2.2 with
      | true =>
        rw [offE_bad _ hc, endB_bad (by rw [← h1.bad, hc])]
        simp
      | false =>
        have h3 := h2 hc
        have h4 := many_length _ _ _ hc
        have h5 := h1.end
        rw [← h3, h4]
        cases hok : ittOk { x with l := (many opP.chg n s).1 } with
        | true =>
          rw [h5]
          simp [okE]
        | false => simp [okE, offE]
    · have hP : offE (many opP.chg n s).2 (okE (ittOk { x with l := (many opP.chg n s).1 })) ≠ 0 := by
        intro h0
        cases hc : (many opP.chg n s).2.2 with
        | true => rw [offE_bad _ hc] at h0; simp at h0
        | false =>
          have h4 := many_length _ _ _ hc
          cases hok : ittOk { x with l := (many opP.chg n s).1 } with
          | true => have := itt16 hok; simp only at this; omega
          | false => rw [hok] at h0; simp [okE, offE] at h0
      rw [if_neg hP, if_neg]
      rintro ⟨h1, h2, h3⟩
      have := itt16 h3
      simp only at this
      omega
end Go.Proofs.YtpnojkgdjkncbaaDoor
