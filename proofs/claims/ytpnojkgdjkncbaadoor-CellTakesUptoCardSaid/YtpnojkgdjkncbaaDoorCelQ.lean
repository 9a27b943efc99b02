/- Plain words of layer 11's readers: the program's, the document's, and that they agree. No program in sight. -/
import Derived.Test.YtpnojkgdjkncbaaDoorCelP
namespace Go.Proofs.YtpnojkgdjkncbaaDoor
open Go
set_option linter.unusedVariables false

/-- a reader: what is left, and whether something was wrong -/
abbrev St := List UInt8 × Bool
def valN (s : St) : Nat := (takeN s.1).1
def nextN (s : St) : St := ((takeN s.1).2.1, s.2 || decide ((takeN s.1).2.2 ≠ 0))
def valS (s : St) : List UInt8 := (takeS s.1).1
def nextS (s : St) : St := ((takeS s.1).2.1, s.2 || decide ((takeS s.1).2.2 ≠ 0))
def valF (s : St) : Bool := decide (valN s = 1)
def nextF (s : St) : St := ((nextN s).1, (nextN s).2 || decide (1 < valN s))
def offE (s : St) (e : Int) : Int := if s.2 = true ∨ s.1 ≠ [] ∨ e ≠ 0 then 4 else 0
/-- the document's -/
def badN (s : St) : Bool := decide ((takeN s.1).2.2 ≠ 0) || s.2
def dvalN (s : St) : Nat := if badN s = true then 0 else (takeN s.1).1
def dnextN (s : St) : St := if badN s = true then (s.1, true) else ((takeN s.1).2.1, s.2)
def badS (s : St) : Bool := decide ((takeS s.1).2.2 ≠ 0) || s.2
def dvalS (s : St) : List UInt8 := if badS s = true then [] else (takeS s.1).1
def dnextS (s : St) : St := if badS s = true then (s.1, true) else ((takeS s.1).2.1, s.2)
def dvalF (s : St) : Bool := decide (dvalN s = 1)
def dnextF (s : St) : St := ((dnextN s).1, (dnextN s).2 || decide (1 < dvalN s))
def endB (s : St) : Bool := !s.2 && decide (s.1 = [])

theorem takeS_length (l : List UInt8) : (takeS l).2.1.length ≤ l.length ∧ (takeS l).1.length ≤ l.length := by
  have h : (takeN l).2.1.length ≤ l.length := by
    cases l with
    | nil => simp [takeN]
    | cons m t =>
      rw [takeN]
      split
      · simp
      split
      · simp
      split
      · simp
      · simp; omega
  unfold takeS
  split
  · simp
  split
  · simp
  split
  · simp
  · simp; omega
theorem nextN_length (s : St) : (nextN s).1.length ≤ s.1.length := by
  unfold nextN
  cases hs : s.1 with
  | nil => simp [takeN]
  | cons m t =>
    rw [takeN]
    split
    · simp
    split
    · simp
    split
    · simp
    · simp; omega
theorem nextS_length (s : St) : (nextS s).1.length ≤ s.1.length := (takeS_length s.1).1
theorem nextF_length (s : St) : (nextF s).1.length ≤ s.1.length := nextN_length s
theorem dnextN_length (s : St) : (dnextN s).1.length ≤ s.1.length := by
  unfold dnextN
  split
  · exact Nat.le_refl _
  · exact nextN_length s
theorem dnextS_length (s : St) : (dnextS s).1.length ≤ s.1.length := by
  unfold dnextS
  split
  · exact Nat.le_refl _
  · exact nextS_length s
theorem dnextF_length (s : St) : (dnextF s).1.length ≤ s.1.length := dnextN_length s

/-- both are wrong, or both stand alike -/
def Sim (s t : St) : Prop := (s.2 = true ∧ t.2 = true) ∨ (s = t ∧ s.2 = false)
theorem Sim.refl (l : List UInt8) (b : Bool) : Sim (l, b) (l, b) := by
  cases b
  · exact .inr ⟨rfl, rfl⟩
  · exact .inl ⟨rfl, rfl⟩
theorem Sim.bad {s t : St} (h : Sim s t) : s.2 = t.2 := by
  rcases h with ⟨h1, h2⟩ | ⟨rfl, _⟩
  · rw [h1, h2]
  · rfl
theorem Sim.end {s t : St} (h : Sim s t) : endB t = decide (offE s 0 = 0) := by
  rcases h with ⟨h1, h2⟩ | ⟨rfl, h⟩
  · simp [endB, offE, h1, h2]
  · simp [endB, offE, h]
theorem nextN_bad {s : St} (h : s.2 = true) : (nextN s).2 = true := by simp [nextN, h]
theorem dnextN_bad {s : St} (h : s.2 = true) : (dnextN s).2 = true := by simp [dnextN, badN, h]
theorem nextS_bad {s : St} (h : s.2 = true) : (nextS s).2 = true := by simp [nextS, h]
theorem dnextS_bad {s : St} (h : s.2 = true) : (dnextS s).2 = true := by simp [dnextS, badS, h]
theorem nextF_bad {s : St} (h : s.2 = true) : (nextF s).2 = true := by simp [nextF, nextN_bad h]
theorem dnextF_bad {s : St} (h : s.2 = true) : (dnextF s).2 = true := by simp [dnextF, dnextN_bad h]
theorem Sim.num {s t : St} (h : Sim s t) : Sim (nextN s) (dnextN t) ∧ ((nextN s).2 = false → valN s = dvalN t) := by
  rcases h with ⟨h1, h2⟩ | ⟨rfl, h⟩
  · exact ⟨.inl ⟨nextN_bad h1, dnextN_bad h2⟩, fun h => by rw [nextN_bad h1] at h; simp at h⟩
  · by_cases he : (takeN s.1).2.2 = 0
    · have hb : badN s = false := by simp [badN, he, h]
      refine ⟨.inr ⟨?_, ?_⟩, fun _ => ?_⟩
      · simp [nextN, dnextN, hb, he]
      · simp [nextN, he, h]
      · simp [valN, dvalN, hb]
    · have hb : badN s = true := by simp [badN, he]
      refine ⟨.inl ⟨by simp [nextN, he], by simp [dnextN, hb]⟩, fun h => ?_⟩
      simp [nextN, he] at h
theorem Sim.str {s t : St} (h : Sim s t) : Sim (nextS s) (dnextS t) ∧ ((nextS s).2 = false → valS s = dvalS t) := by
  rcases h with ⟨h1, h2⟩ | ⟨rfl, h⟩
  · exact ⟨.inl ⟨nextS_bad h1, dnextS_bad h2⟩, fun h => by rw [nextS_bad h1] at h; simp at h⟩
  · by_cases he : (takeS s.1).2.2 = 0
    · have hb : badS s = false := by simp [badS, he, h]
      refine ⟨.inr ⟨?_, ?_⟩, fun _ => ?_⟩
      · simp [nextS, dnextS, hb, he]
      · simp [nextS, he, h]
      · simp [valS, dvalS, hb]
    · have hb : badS s = true := by simp [badS, he]
      refine ⟨.inl ⟨by simp [nextS, he], by simp [dnextS, hb]⟩, fun h => ?_⟩
      simp [nextS, he] at h
theorem Sim.flag {s t : St} (h : Sim s t) : Sim (nextF s) (dnextF t) ∧ ((nextF s).2 = false → valF s = dvalF t) := by
  have hn := h.num
  rcases hn.1 with ⟨h1, h2⟩ | ⟨h1, h2⟩
  · exact ⟨.inl ⟨by simp [nextF, h1], by simp [dnextF, h2]⟩, fun h => by simp [nextF, h1] at h⟩
  · have hv := hn.2 h2
    have hd : dnextF t = nextF s := by simp [dnextF, nextF, ← h1, hv]
    refine ⟨?_, fun _ => by simp [valF, dvalF, hv]⟩
    rw [hd]
    exact Sim.refl _ _

theorem Sim.ends {s t : St} (h : Sim s t) (hb : offE s 0 = 0) : s.2 = false := by
  cases hs : s.2 with
  | false => rfl
  | true => simp [offE, hs] at hb
theorem offE_cases (s : St) (e : Int) : offE s e = 0 ∨ offE s e = 4 := by
  unfold offE
  split <;> simp
/-- what a text says: a number -/
def takeNumR (l : List UInt8) : Nat × Int := if offE (nextN (l, false)) 0 = 0 then (valN (l, false), 0) else (0, 4)
def takeNumD (l : List UInt8) : Nat × Int := if endB (dnextN (l, false)) = true then (dvalN (l, false), 0) else (0, 4)
theorem takeNum_eq (l : List UInt8) : takeNumD l = takeNumR l := by
  have h := (Sim.refl l false).num
  unfold takeNumD takeNumR
  rw [h.1.end]
  by_cases h0 : offE (nextN (l, false)) 0 = 0
  · simp only [h0, decide_true, if_true]
    rw [h.2 (h.1.ends h0)]
  · simp [h0]
/-- a stamp -/
def st2 (l : List UInt8) : St := nextN (nextN (l, false))
def dst2 (l : List UInt8) : St := dnextN (dnextN (l, false))
def takeStampR (l : List UInt8) (ck : Int → Int → Int) : Nat × Nat × Int := if offE (st2 l) (ck (valN (l, false)) (valN (nextN (l, false)))) = 0 then (valN (l, false), valN (nextN (l, false)), 0) else (0, 0, 4)
def takeStampD (l : List UInt8) (ck : Int → Int → Int) : Nat × Nat × Int := if endB (dst2 l) = true ∧ ck (dvalN (l, false)) (dvalN (dnextN (l, false))) = 0 then (dvalN (l, false), dvalN (dnextN (l, false)), 0) else (0, 0, 4)
theorem nextN_false {s : St} (h : (nextN s).2 = false) : s.2 = false := by
  cases hs : s.2 with
  | false => rfl
  | true => rw [nextN_bad hs] at h; simp at h
theorem nextS_false {s : St} (h : (nextS s).2 = false) : s.2 = false := by
  cases hs : s.2 with
  | false => rfl
  | true => rw [nextS_bad hs] at h; simp at h
theorem nextF_false {s : St} (h : (nextF s).2 = false) : (nextN s).2 = false ∧ s.2 = false := by
  have h1 : (nextN s).2 = false := by
    cases hs : (nextN s).2 with
    | false => rfl
    | true => simp [nextF, hs] at h
  exact ⟨h1, nextN_false h1⟩
theorem offE_split (s : St) (e : Int) : (offE s e = 0) = (offE s 0 = 0 ∧ e = 0) := by
  unfold offE
  by_cases h1 : s.2 = true <;> by_cases h2 : s.1 = [] <;> by_cases h3 : e = 0 <;> simp [h1, h2, h3]
theorem takeStamp_eq (l : List UInt8) (ck : Int → Int → Int) : takeStampD l ck = takeStampR l ck := by
  have h := (Sim.refl l false).num
  have h2 := h.1.num
  have hs := offE_split (nextN (nextN (l, false)))
  unfold takeStampD takeStampR dst2 st2
  rw [h2.1.end]
  by_cases h0 : offE (nextN (nextN (l, false))) 0 = 0
  · have hb := h2.1.ends h0
    rw [← h2.2 hb, ← h.2 (nextN_false hb)]
    by_cases hc : ck (valN (l, false)) (valN (nextN (l, false))) = 0
    · rw [if_pos ⟨by simp [h0], hc⟩, if_pos (by rw [hs]; exact ⟨h0, hc⟩)]
    · rw [if_neg (fun e => hc e.2), if_neg (by rw [hs]; exact fun e => hc e.2)]
  · rw [if_neg (by simp [h0]), if_neg (by rw [hs]; exact fun e => h0 e.1)]
/-- a version -/
def verR (l : List UInt8) : St := if valF (l, false) = true then nextS (nextF (l, false)) else nextF (l, false)
def verD (l : List UInt8) : St := if dvalF (l, false) = true then dnextS (dnextF (l, false)) else dnextF (l, false)
def takeVerR (l : List UInt8) : List UInt8 × Bool × Int :=
  if offE (verR l) 0 = 0 then ((if valF (l, false) = true then valS (nextF (l, false)) else []), valF (l, false), 0) else ([], false, 4)
def takeVerD (l : List UInt8) : List UInt8 × Bool × Int :=
  if endB (verD l) = true then ((if dvalF (l, false) = true then dvalS (dnextF (l, false)) else []), dvalF (l, false), 0) else ([], false, 4)
theorem takeVer_eq (l : List UInt8) : takeVerD l = takeVerR l := by
  have h := (Sim.refl l false).flag
  have h2 := h.1.str
  unfold takeVerD takeVerR verD verR
  by_cases hb : (nextF (l, false)).2 = false
  · rw [← h.2 hb]
    by_cases hv : valF (l, false) = true
    · simp only [hv, if_true]
      rw [h2.1.end]
      by_cases h0 : offE (nextS (nextF (l, false))) 0 = 0
      · simp only [h0, decide_true, if_true]
        rw [h2.2 (h2.1.ends h0)]
      · simp [h0]
    · simp only [hv]
      simp only [Bool.false_eq_true, if_false]
      rw [h.1.end]
      simp
  · have hb : (nextF (l, false)).2 = true := by simpa using hb
    have hd : (dnextF (l, false)).2 = true := by rw [← h.1.bad]; exact hb
    have e1 : ∀ c : Bool, endB (if c = true then dnextS (dnextF (l, false)) else dnextF (l, false)) = false := by
      intro c
      cases c <;> simp [endB, hd, dnextS_bad hd]
    have e2 : ∀ c : Bool, ¬ offE (if c = true then nextS (nextF (l, false)) else nextF (l, false)) 0 = 0 := by
      intro c
      cases c <;> simp [offE, hb, nextS_bad hb]
    rw [e1, if_neg (e2 _)]
    simp
end Go.Proofs.YtpnojkgdjkncbaaDoor
