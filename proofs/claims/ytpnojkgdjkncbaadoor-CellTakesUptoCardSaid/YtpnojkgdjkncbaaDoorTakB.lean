/- Layer 11: reader.many over the closures of TakeIntent and TakeRecord. -/
import Derived.Test.YtpnojkgdjkncbaaDoorTakA
namespace Go.Proofs.YtpnojkgdjkncbaaDoor
open Go.RowKit
set_option maxRecDepth 100000
set_option linter.unusedVariables false
set_option linter.unusedSimpArgs false

theorem valN_le (s : St) : valN s ≤ 9007199254740991 := by
  unfold valN
  cases hs : s.1 with
  | nil => simp [takeN]
  | cons m t =>
    rw [takeN]
    split
    · simp
    split
    · simp
    split
    · simp
    · rename_i h; simp only; omega
theorem nextN_lt {s : St} (h : (nextN s).2 = false) : (nextN s).1.length < s.1.length := by
  unfold nextN at h ⊢
  cases hs : s.1 with
  | nil => rw [hs] at h; simp [takeN] at h
  | cons m t =>
    rw [hs] at h
    rw [takeN] at h ⊢
    split
    · rename_i h1; simp [h1] at h
    split
    · rename_i h1 h2; simp [h1, h2] at h
    split
    · rename_i h1 h2 h3; simp [h1, h2, h3] at h
    · simp; omega
theorem chg_length (s : St) : (opP.chg s).2.1.length ≤ s.1.length ∧ ((opP.chg s).2.2 = false → (opP.chg s).2.1.length < s.1.length) := by
  have h1 := nextN_length s
  have h2 := nextF_length (nextN s)
  have h3 := nextS_length (nextF (nextN s))
  refine ⟨by simp only [Ops.chg, opP]; omega, fun h => ?_⟩
  have h4 := nextN_lt (backF (backS h))
  simp only [Ops.chg, opP]
  omega
theorem wrt_length (s : St) : (opP.wrt s).2.1.length ≤ s.1.length ∧ ((opP.wrt s).2.2 = false → (opP.wrt s).2.1.length < s.1.length) := by
  have h1 := nextS_length s
  have h2 := nextN_length (nextS s)
  refine ⟨by simp only [Ops.wrt, opP]; omega, fun h => ?_⟩
  have h4 := nextN_lt (s := nextS s) h
  simp only [Ops.wrt, opP]
  omega

set_option maxHeartbeats 4000000 in
theorem ittMany_any {B X C N : Nat} {s : St} {w : World} {c0 c1 c2 c3 c4 c5 c6 c7 : Value}
    (hX : w.heap[X]? = some (.cells #[c0, c1, c2, c3, c4, c5, c6, c7, .slice none 0 0] 39))
    (hC : w.heap[C]? = some (.cells #[.pointer (some ⟨B, 0, none⟩)] 103))
    (hR : Rdr 105 B s w) (hN : N ≤ w.heap.size) (hBN : N ≤ B) (hNX : N ≤ X) (hlen : s.1.length ≤ 4398046511000) :
    Calls Tryd.prog 87 #[.pointer (some ⟨B, 0, none⟩), .func (.func 88) #[] #[.pointer (some ⟨X, 0, none⟩), .pointer (some ⟨C, 0, none⟩)]] w fun e w' => e = .returned (.tuple #[]) ∧ ∃ vl', w'.heap[X]? = some (.cells #[c0, c1, c2, c3, c4, c5, c6, c7, vl'] 39) ∧ OwnG 86 3 chgCells w' N vl' (many opP.chg (valN s) (nextN s)).1
      ∧ w'.heap[C]? = some (.cells #[.pointer (some ⟨B, 0, none⟩)] 103) ∧ Rdr 105 B (many opP.chg (valN s) (nextN s)).2 w' ∧ Below N w w' := by
  have hXB : X ≠ B := by rintro rfl; obtain ⟨⟨v, h1, _⟩, _⟩ := hR; rw [hX] at h1; simp at h1
  have hCB : C ≠ B := by rintro rfl; obtain ⟨⟨v, h1, _⟩, _⟩ := hR; rw [hC] at h1; simp at h1
  have hvb := valN_le s
  have hl1 := nextN_length s
  have HX := Lib.hid hX
  have HC := Lib.hid hC
  have HR := Lib.hid (rnum hR (by omega))
  have HM : Hid (∀ n t, many opP.chg (n + 1) t = if t.2 = true then ([], t) else ((opP.chg t).1 :: (many opP.chg n (opP.chg t).2).1, (many opP.chg n (opP.chg t).2).2)) := Lib.hid (fun _ _ => rfl)
  have HL := Lib.hid (chg_length)
  clear hX hC hR
  generalize hvn : valN s = n at *
  generalize hsn : nextN s = s1 at *
  clear hvn hsn
  have HG : Hid (∃ r, r = many opP.chg n s1) := Lib.hid ⟨_, rfl⟩
  obtain ⟨r, hr⟩ := HG.out
  rw [← hr]
  have HRR := Lib.hid hr
  clear hr HG
  go_enter Tryd.func87, Tryd.ntmps87
  go_wp2_with (go_at_call 77; refine HR.out.mono ?_; rintro e w1 ⟨rfl, hr1, hF1⟩)
  have HX1 := Lib.hid (hF1.blk _ _ HX.out hXB)
  have HC1 := Lib.hid (hF1.blk _ _ HC.out hCB)
  have HR1 := Lib.hid hr1
  have HB1 := Lib.hid (hF1.below hBN hN)
  have hN1 := Nat.le_trans hN hF1.size
  clear hr1
  go_loopw [4] (fun v wr => ∃ (m : Nat) (s' : St) (l' : List Chg) (vl : Value), v = .int .i64 m ∧ m ≤ n ∧ Hid (r = (l' ++ (many opP.chg m s').1, (many opP.chg m s').2)) ∧ l'.length + s'.1.length ≤ s1.1.length + (if s'.2 = true then 1 else 0)
      ∧ Hid (wr.heap[X]? = some (.cells #[c0, c1, c2, c3, c4, c5, c6, c7, vl] 39)) ∧ Hid (OwnG 86 3 chgCells wr N vl l') ∧ Hid (wr.heap[C]? = some (.cells #[.pointer (some ⟨B, 0, none⟩)] 103)) ∧ Hid (Rdr 105 B s' wr) ∧ Hid (Below N w wr)) (fun v _ => (intOf v).toNat)
  case atStart => exact ⟨n, s1, [], _, rfl, Nat.le_refl _, Lib.hid (by rw [HRR.out]; rfl), by simp, HX1, Lib.hid (OwnG.nil _ _), HC1, HR1, HB1⟩
  case round =>
    obtain ⟨m, s', l', vl, rfl, hmn, HE, hbd, HX2, HO2, HC2, HR2, HB2⟩ := hrel
    obtain ⟨⟨v1, hv1, _⟩, _⟩ := HR2.out
    obtain ⟨k_0, k_1, g_0, g_1, l_0⟩ := blk2 hv1
    clear hv1
    obtain ⟨ls, b⟩ := s'
    cases m with
    | zero =>
      have hrr : r = (l', (ls, b)) := by rw [HE.out]; simp [many]
      subst hrr
      go_wp2
      go_end0
      exact ⟨rfl, vl, HX2.out, HO2.out, HC2.out, HR2.out, HB2.out⟩
    | succ m =>
      cases b with
      | true =>
        have hrr : r = (l', (ls, true)) := by rw [HE.out, HM.out, if_pos rfl]; simp
        subst hrr
        go_wp2
        go_end0
        exact ⟨rfl, vl, HX2.out, HO2.out, HC2.out, HR2.out, HB2.out⟩
      | false =>
        have hbd' : l'.length + ls.length ≤ s1.1.length := by simpa using hbd
        have hll := HL.out (ls, false)
        have HCL := Lib.hid (ittChg_any HX2.out HC2.out HR2.out HO2.out (Nat.le_trans hN HB2.out.size) hBN hNX (by simp only; omega) (by omega))
        have HE2 : Hid (r = ((l' ++ [(opP.chg (ls, false)).1]) ++ (many opP.chg m (opP.chg (ls, false)).2).1, (many opP.chg m (opP.chg (ls, false)).2).2)) := Lib.hid (by rw [HE.out, HM.out, if_neg (by simp)]; simp)
        clear HE hbd
        go_wp2_with (go_at_call 88; refine HCL.out.mono ?_; rintro e w2 ⟨rfl, vl2, hX3, hO3, hC3, hR3, hB3⟩; (have HX3 := Lib.hid hX3); (have HO3 := Lib.hid hO3); (have HC3 := Lib.hid hC3); (have HR3 := Lib.hid hR3); clear hX3 hO3 hC3 hR3)
        go_roundw
        case rel =>
          refine ⟨m, _, _, vl2, by go_num, by omega, HE2, ?_, HX3, HO3, HC3, HR3, Lib.hid (HB2.out.trans hB3)⟩
          simp only [List.length_append, List.length_cons, List.length_nil]
          cases hb : (opP.chg (ls, false)).2.2 with
          | true => simp only [if_true]; have := hll.1; omega
          | false => have := hll.2 hb; simp; omega
        case measure => (first | (simp [intOf]; done) | (simp [intOf]; omega))

set_option maxHeartbeats 4000000 in
theorem recMany_any {B X C N : Nat} {s : St} {w : World} {c0 c1 c2 c3 c4 c5 c6 c7 c8 : Value}
    (hX : w.heap[X]? = some (.cells #[c0, c1, c2, c3, c4, c5, c6, c7, c8, .slice none 0 0] 47))
    (hC : w.heap[C]? = some (.cells #[.pointer (some ⟨B, 0, none⟩)] 103))
    (hR : Rdr 105 B s w) (hN : N ≤ w.heap.size) (hBN : N ≤ B) (hNX : N ≤ X) (hlen : s.1.length ≤ 4398046511000) :
    Calls Tryd.prog 87 #[.pointer (some ⟨B, 0, none⟩), .func (.func 89) #[] #[.pointer (some ⟨X, 0, none⟩), .pointer (some ⟨C, 0, none⟩)]] w fun e w' => e = .returned (.tuple #[]) ∧ ∃ vl', w'.heap[X]? = some (.cells #[c0, c1, c2, c3, c4, c5, c6, c7, c8, vl'] 47) ∧ OwnG 92 2 wrtCells w' N vl' (many opP.wrt (valN s) (nextN s)).1
      ∧ w'.heap[C]? = some (.cells #[.pointer (some ⟨B, 0, none⟩)] 103) ∧ Rdr 105 B (many opP.wrt (valN s) (nextN s)).2 w' ∧ Below N w w' := by
  have hXB : X ≠ B := by rintro rfl; obtain ⟨⟨v, h1, _⟩, _⟩ := hR; rw [hX] at h1; simp at h1
  have hCB : C ≠ B := by rintro rfl; obtain ⟨⟨v, h1, _⟩, _⟩ := hR; rw [hC] at h1; simp at h1
  have hvb := valN_le s
  have hl1 := nextN_length s
  have HX := Lib.hid hX
  have HC := Lib.hid hC
  have HR := Lib.hid (rnum hR (by omega))
  have HM : Hid (∀ n t, many opP.wrt (n + 1) t = if t.2 = true then ([], t) else ((opP.wrt t).1 :: (many opP.wrt n (opP.wrt t).2).1, (many opP.wrt n (opP.wrt t).2).2)) := Lib.hid (fun _ _ => rfl)
  have HL := Lib.hid (wrt_length)
  clear hX hC hR
  generalize hvn : valN s = n at *
  generalize hsn : nextN s = s1 at *
  clear hvn hsn
  have HG : Hid (∃ r, r = many opP.wrt n s1) := Lib.hid ⟨_, rfl⟩
  obtain ⟨r, hr⟩ := HG.out
  rw [← hr]
  have HRR := Lib.hid hr
  clear hr HG
  go_enter Tryd.func87, Tryd.ntmps87
  go_wp2_with (go_at_call 77; refine HR.out.mono ?_; rintro e w1 ⟨rfl, hr1, hF1⟩)
  have HX1 := Lib.hid (hF1.blk _ _ HX.out hXB)
  have HC1 := Lib.hid (hF1.blk _ _ HC.out hCB)
  have HR1 := Lib.hid hr1
  have HB1 := Lib.hid (hF1.below hBN hN)
  have hN1 := Nat.le_trans hN hF1.size
  clear hr1
  go_loopw [4] (fun v wr => ∃ (m : Nat) (s' : St) (l' : List Wrt) (vl : Value), v = .int .i64 m ∧ m ≤ n ∧ Hid (r = (l' ++ (many opP.wrt m s').1, (many opP.wrt m s').2)) ∧ l'.length + s'.1.length ≤ s1.1.length + (if s'.2 = true then 1 else 0)
      ∧ Hid (wr.heap[X]? = some (.cells #[c0, c1, c2, c3, c4, c5, c6, c7, c8, vl] 47)) ∧ Hid (OwnG 92 2 wrtCells wr N vl l') ∧ Hid (wr.heap[C]? = some (.cells #[.pointer (some ⟨B, 0, none⟩)] 103)) ∧ Hid (Rdr 105 B s' wr) ∧ Hid (Below N w wr)) (fun v _ => (intOf v).toNat)
  case atStart => exact ⟨n, s1, [], _, rfl, Nat.le_refl _, Lib.hid (by rw [HRR.out]; rfl), by simp, HX1, Lib.hid (OwnG.nil _ _), HC1, HR1, HB1⟩
  case round =>
    obtain ⟨m, s', l', vl, rfl, hmn, HE, hbd, HX2, HO2, HC2, HR2, HB2⟩ := hrel
    obtain ⟨⟨v1, hv1, _⟩, _⟩ := HR2.out
    obtain ⟨k_0, k_1, g_0, g_1, l_0⟩ := blk2 hv1
    clear hv1
    obtain ⟨ls, b⟩ := s'
    cases m with
    | zero =>
      have hrr : r = (l', (ls, b)) := by rw [HE.out]; simp [many]
      subst hrr
      go_wp2
      go_end0
      exact ⟨rfl, vl, HX2.out, HO2.out, HC2.out, HR2.out, HB2.out⟩
    | succ m =>
      cases b with
      | true =>
        have hrr : r = (l', (ls, true)) := by rw [HE.out, HM.out, if_pos rfl]; simp
        subst hrr
        go_wp2
        go_end0
        exact ⟨rfl, vl, HX2.out, HO2.out, HC2.out, HR2.out, HB2.out⟩
      | false =>
        have hbd' : l'.length + ls.length ≤ s1.1.length := by simpa using hbd
        have hll := HL.out (ls, false)
        have HCL := Lib.hid (recWrt_any HX2.out HC2.out HR2.out HO2.out (Nat.le_trans hN HB2.out.size) hBN hNX (by simp only; omega) (by omega))
        have HE2 : Hid (r = ((l' ++ [(opP.wrt (ls, false)).1]) ++ (many opP.wrt m (opP.wrt (ls, false)).2).1, (many opP.wrt m (opP.wrt (ls, false)).2).2)) := Lib.hid (by rw [HE.out, HM.out, if_neg (by simp)]; simp)
        clear HE hbd
        go_wp2_with (go_at_call 89; refine HCL.out.mono ?_; rintro e w2 ⟨rfl, vl2, hX3, hO3, hC3, hR3, hB3⟩; (have HX3 := Lib.hid hX3); (have HO3 := Lib.hid hO3); (have HC3 := Lib.hid hC3); (have HR3 := Lib.hid hR3); clear hX3 hO3 hC3 hR3)
        go_roundw
        case rel =>
          refine ⟨m, _, _, vl2, by go_num, by omega, HE2, ?_, HX3, HO3, HC3, HR3, Lib.hid (HB2.out.trans hB3)⟩
          simp only [List.length_append, List.length_cons, List.length_nil]
          cases hb : (opP.wrt (ls, false)).2.2 with
          | true => simp only [if_true]; have := hll.1; omega
          | false => have := hll.2 hb; simp; omega
        case measure => (first | (simp [intOf]; done) | (simp [intOf]; omega))
end Go.Proofs.YtpnojkgdjkncbaaDoor
