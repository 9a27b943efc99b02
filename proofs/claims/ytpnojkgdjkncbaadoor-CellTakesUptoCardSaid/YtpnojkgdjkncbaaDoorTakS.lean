/- Plain words of layer 11's readers of intents and records: the program's, the document's, and that they agree. No program in sight. -/
import Derived.Test.YtpnojkgdjkncbaaDoorCelQ
import Derived.Test.YtpnojkgdjkncbaaDoorRecS
namespace Go.Proofs.YtpnojkgdjkncbaaDoor
open Go
set_option linter.unusedVariables false
set_option linter.unusedSimpArgs false

/-- the steps of a reader -/
structure Ops where
  vN : St → Nat
  nN : St → St
  vS : St → List UInt8
  nS : St → St
  vF : St → Bool
  nF : St → St
def opP : Ops := ⟨valN, nextN, valS, nextS, valF, nextF⟩
def opD : Ops := ⟨dvalN, dnextN, dvalS, dnextS, dvalF, dnextF⟩
def Ops.chg (o : Ops) (s : St) : Chg × St := (⟨o.vN s, ⟨(o.vS (o.nF (o.nN s))).toArray⟩, o.vF (o.nN s)⟩, o.nS (o.nF (o.nN s)))
def Ops.wrt (o : Ops) (s : St) : Wrt × St := (⟨⟨(o.vS s).toArray⟩, o.vN (o.nS s)⟩, o.nN (o.nS s))
def many {α : Type} (f : St → α × St) : Nat → St → List α × St
  | 0, s => ([], s)
  | n + 1, s => if s.2 = true then ([], s) else ((f s).1 :: (many f n (f s).2).1, (many f n (f s).2).2)
def Ops.s4 (o : Ops) (s : St) : St := o.nN (o.nN (o.nN (o.nN s)))
def Ops.itt (o : Ops) (s : St) : Itt × Nat × St :=
  (⟨o.vN s, o.vN (o.nN s), o.vN (o.nN (o.nN s)), ⟨(o.vS (o.nN (o.nN (o.nN s)))).toArray⟩,
    o.vN (o.nS (o.nN (o.nN (o.nN s)))), o.vN (o.nN (o.nS (o.nN (o.nN (o.nN s))))), o.vN (o.nN (o.nN (o.nS (o.nN (o.nN (o.nN s)))))), o.vN (o.nN (o.nN (o.nN (o.nS (o.nN (o.nN (o.nN s))))))), []⟩,
   o.vN (o.s4 (o.nS (o.nN (o.nN (o.nN s))))), o.nN (o.s4 (o.nS (o.nN (o.nN (o.nN s))))))
def Ops.recd (o : Ops) (s : St) : Rec × Nat × St :=
  (⟨o.vN s, o.vN (o.nN s), o.vN (o.nN (o.nN s)), o.vN (o.nN (o.nN (o.nN s))), ⟨(o.vS (o.s4 s)).toArray⟩,
    o.vN (o.nS (o.s4 s)), o.vN (o.nN (o.nS (o.s4 s))), o.vN (o.nN (o.nN (o.nS (o.s4 s)))), o.vN (o.nN (o.nN (o.nN (o.nS (o.s4 s))))), []⟩,
   o.vN (o.s4 (o.nS (o.s4 s))), o.nN (o.s4 (o.nS (o.s4 s))))

theorem backN {s : St} (h : (nextN s).2 = false) : s.2 = false := by
  cases hs : s.2 with
  | false => rfl
  | true => rw [nextN_bad hs] at h; simp at h
theorem backS {s : St} (h : (nextS s).2 = false) : s.2 = false := by
  cases hs : s.2 with
  | false => rfl
  | true => rw [nextS_bad hs] at h; simp at h
theorem backF {s : St} (h : (nextF s).2 = false) : s.2 = false := by
  cases hs : s.2 with
  | false => rfl
  | true => rw [nextF_bad hs] at h; simp at h

def Alike {α : Type} (f g : St → α × St) : Prop := ∀ s t, Sim s t → Sim (f s).2 (g t).2 ∧ ((f s).2.2 = false → (f s).1 = (g t).1) ∧ ((f s).2.2 = false → s.2 = false)
theorem chg_alike : Alike opP.chg opD.chg := by
  intro s t h
  obtain ⟨h1, e1⟩ := h.num
  obtain ⟨h2, e2⟩ := h1.flag
  obtain ⟨h3, e3⟩ := h2.str
  refine ⟨h3, fun hb => ?_, fun hb => backN (backF (backS hb))⟩
  have b2 := backS hb
  have b1 := backF b2
  simp only [Ops.chg, opP, opD]
  rw [e1 b1, e2 b2, e3 hb]
theorem wrt_alike : Alike opP.wrt opD.wrt := by
  intro s t h
  obtain ⟨h1, e1⟩ := h.str
  obtain ⟨h2, e2⟩ := h1.num
  refine ⟨h2, fun hb => ?_, fun hb => backS (backN hb)⟩
  have b1 := backN hb
  simp only [Ops.wrt, opP, opD]
  rw [e1 b1, e2 hb]
theorem many_bad {α : Type} (f : St → α × St) (n : Nat) (s : St) (h : s.2 = true) : many f n s = ([], s) := by
  cases n with
  | zero => rfl
  | succ n => rw [many, if_pos h]
theorem many_alike {α : Type} {f g : St → α × St} (hf : Alike f g) : ∀ (n : Nat) (s t : St), Sim s t → Sim (many f n s).2 (many g n t).2 ∧ ((many f n s).2.2 = false → (many f n s).1 = (many g n t).1)
  | 0, s, t, h => ⟨h, fun _ => rfl⟩
  | n + 1, s, t, h => by
    cases hs : s.2 with
    | true =>
      have ht : t.2 = true := by rw [← h.bad, hs]
      rw [many_bad f _ s hs, many_bad g _ t ht]
      exact ⟨h, fun _ => rfl⟩
    | false =>
      have ht : t.2 = false := by rw [← h.bad, hs]
      obtain ⟨h1, e1, b1⟩ := hf s t h
      obtain ⟨h2, e2⟩ := many_alike hf n _ _ h1
      rw [many, many, if_neg (by rw [hs]; simp), if_neg (by rw [ht]; simp)]
      refine ⟨h2, fun hb => ?_⟩
      have hb1 : (f s).2.2 = false := by
        cases hx : (f s).2.2 with
        | false => rfl
        | true => simp only [many_bad f n _ hx] at hb; rw [hx] at hb; exact hb
      simp only
      rw [e1 hb1, e2 hb]
theorem many_length {α : Type} (f : St → α × St) : ∀ (n : Nat) (s : St), (many f n s).2.2 = false → (many f n s).1.length = n
  | 0, s, _ => rfl
  | n + 1, s, h => by
    cases hs : s.2 with
    | true => rw [many_bad f _ s hs] at h; rw [hs] at h; simp at h
    | false =>
      rw [many, if_neg (by rw [hs]; simp)] at h ⊢
      simp only [List.length_cons]
      rw [many_length f n _ h]
theorem itt_alike {s t : St} (h : Sim s t) : Sim (opP.itt s).2.2 (opD.itt t).2.2 ∧ ((opP.itt s).2.2.2 = false → (opP.itt s).1 = (opD.itt t).1 ∧ (opP.itt s).2.1 = (opD.itt t).2.1) := by
  obtain ⟨h1, e1⟩ := h.num
  obtain ⟨h2, e2⟩ := h1.num
  obtain ⟨h3, e3⟩ := h2.num
  obtain ⟨h4, e4⟩ := h3.str
  obtain ⟨h5, e5⟩ := h4.num
  obtain ⟨h6, e6⟩ := h5.num
  obtain ⟨h7, e7⟩ := h6.num
  obtain ⟨h8, e8⟩ := h7.num
  obtain ⟨h9, e9⟩ := h8.num
  refine ⟨h9, fun b9 => ?_⟩
  have b8 := backN b9
  have b7 := backN b8
  have b6 := backN b7
  have b5 := backN b6
  have b4 := backN b5
  have b3 := backS b4
  have b2 := backN b3
  have b1 := backN b2
  simp only [Ops.itt, Ops.s4, opP, opD]
  rw [e1 b1, e2 b2, e3 b3, e4 b4, e5 b5, e6 b6, e7 b7, e8 b8, e9 b9]
  exact ⟨rfl, rfl⟩
theorem rec_alike {s t : St} (h : Sim s t) : Sim (opP.recd s).2.2 (opD.recd t).2.2 ∧ ((opP.recd s).2.2.2 = false → (opP.recd s).1 = (opD.recd t).1 ∧ (opP.recd s).2.1 = (opD.recd t).2.1) := by
  obtain ⟨h1, e1⟩ := h.num
  obtain ⟨h2, e2⟩ := h1.num
  obtain ⟨h3, e3⟩ := h2.num
  obtain ⟨h0, e0⟩ := h3.num
  obtain ⟨h4, e4⟩ := h0.str
  obtain ⟨h5, e5⟩ := h4.num
  obtain ⟨h6, e6⟩ := h5.num
  obtain ⟨h7, e7⟩ := h6.num
  obtain ⟨h8, e8⟩ := h7.num
  obtain ⟨h9, e9⟩ := h8.num
  refine ⟨h9, fun b9 => ?_⟩
  have b8 := backN b9
  have b7 := backN b8
  have b6 := backN b7
  have b5 := backN b6
  have b4 := backN b5
  have b0 := backS b4
  have b3 := backN b0
  have b2 := backN b3
  have b1 := backN b2
  simp only [Ops.recd, Ops.s4, opP, opD]
  rw [e1 b1, e2 b2, e3 b3, e0 b0, e4 b4, e5 b5, e6 b6, e7 b7, e8 b8, e9 b9]
  exact ⟨rfl, rfl⟩
end Go.Proofs.YtpnojkgdjkncbaaDoor
