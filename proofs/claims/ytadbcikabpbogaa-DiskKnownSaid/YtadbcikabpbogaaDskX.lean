/- Layer 7: the statement on failing. -/
import Derived.Test.YtadbcikabpbogaaDskW
namespace Go.Proofs.Ytadbcikabpbogaa
open Go.RowKit Go.Maps
set_option maxRecDepth 100000
set_option linter.unusedVariables false
set_option linter.unusedSimpArgs false

def fKeep : List Int := [1073741824, 1073741824, 1073741824]
def fFiles (i : Nat) (fs : List DF) : Prop := ∃ A m, A.length ≤ i ∧ m ≤ A.length ∧ (fs = [⟨[97], A, m⟩] ∨ fs = [⟨[97], A, m⟩, ⟨[98], [], 0⟩])
def fInv (n d i : Nat) (st : DS) : Prop := st.keep = fKeep ∧ fFiles i st.fs ∧ d ≤ n ∧ ((st.dead = false ∧ st.left = (n : Int) - d) ∨ (st.dead = true ∧ d = n))
theorem fFiles.up {i j : Nat} {fs : List DF} (h : fFiles i fs) (hij : i ≤ j) : fFiles j fs := by
  obtain ⟨A, m, h1, h2, h3⟩ := h
  exact ⟨A, m, by omega, h2, h3⟩
theorem fFiles.crash {i j : Nat} {fs : List DF} (h : fFiles i fs) (hij : i ≤ j) : fFiles j (crashF fKeep 0 fs) := by
  obtain ⟨A, m, h1, h2, h3⟩ := h
  have hk : ∀ x : Nat, x ≤ A.length → ((1073741824 : Int) % ((A.length : Int) - x + 1)).toNat ≤ A.length - x := by
    intro x hx
    have := Int.emod_lt_of_pos (1073741824 : Int) (show 0 < (A.length : Int) - x + 1 by omega)
    have := Int.emod_nonneg (1073741824 : Int) (show (A.length : Int) - x + 1 ≠ 0 by omega)
    omega
  have := hk m h2
  refine ⟨A.take (m + ((1073741824 : Int) % ((A.length : Int) - m + 1)).toNat), m + ((1073741824 : Int) % ((A.length : Int) - m + 1)).toNat, by rw [List.length_take]; omega, by rw [List.length_take]; omega, ?_⟩
  rcases h3 with rfl | rfl
  · exact .inl rfl
  · exact .inr (by simp [crashF, crashOne, fKeep])
/-- what a work's answer is -/
def fStep (n d i : Nat) (r : Int × DS) : Prop := (d < n ∧ r.1 = 0 ∧ fInv n (d + 1) (i + 1) r.2) ∨ (d = n ∧ r.1 = 71 ∧ r.2.dead = true ∧ fInv n d (i + 1) r.2)
theorem fStep_dead {n d i : Nat} {st : DS} (h : fInv n d i st) (hd : st.dead = true) : fStep n d i (71, st) := by
  obtain ⟨h1, h2, h3, h4⟩ := h
  rcases h4 with h4 | h4
  · rw [hd] at h4; cases h4.1
  · exact .inr ⟨h4.2, rfl, hd, h1, h2.up (by omega), h3, .inr h4⟩
theorem fStep_work {n d i : Nat} {st : DS} (h : fInv n d i st) (hd : st.dead = false) (g : List DF → List DF) (hg : fFiles (i + 1) (g st.fs)) : fStep n d i (st.work g) := by
  obtain ⟨h1, h2, h3, h4⟩ := h
  rcases h4 with ⟨_, h4⟩ | h4
  · unfold DS.work
    split
    · rename_i hz
      refine .inr ⟨by omega, rfl, ?_, ?_⟩
      · simp [DS.crash, hd]
      · refine ⟨by simp [DS.crash, hd, h1], ?_, h3, .inr ⟨by simp [DS.crash, hd], by omega⟩⟩
        simp only [DS.crash, hd, Bool.false_eq_true, if_false, h1]
        exact h2.crash (by omega)
    · rename_i hz
      refine .inl ⟨by omega, rfl, h1, hg, by omega, .inl ⟨hd, ?_⟩⟩
      simp only
      rw [if_pos (by omega), h4]
      push_cast
      omega
  · rw [hd] at h4; cases h4.1
theorem fGetA {i : Nat} {fs : List DF} (h : fFiles i fs) : ∃ A m, A.length ≤ i ∧ m ≤ A.length ∧ getF [97] fs = some ⟨[97], A, m⟩ ∧ allF fs = A.length ∧ fs.length ≤ 2 ∧ (fs = [⟨[97], A, m⟩] ∨ fs = [⟨[97], A, m⟩, ⟨[98], [], 0⟩]) := by
  obtain ⟨A, m, h1, h2, h3⟩ := h
  refine ⟨A, m, h1, h2, ?_, ?_, ?_, h3⟩ <;> rcases h3 with rfl | rfl <;> simp [getK, allF]
theorem fPut {i : Nat} {fs : List DF} (h : fFiles i fs) {B : List UInt8} {m : Nat} (hB : B.length ≤ i + 1) (hm : m ≤ B.length) : fFiles (i + 1) (putF ⟨[97], B, m⟩ fs) := by
  obtain ⟨A, k, h1, h2, h3⟩ := h
  refine ⟨B, m, hB, hm, ?_⟩
  rcases h3 with rfl | rfl
  · exact .inl (by simp [putK, insK, delK])
  · exact .inr (by simp [putK, insK, delK, bytesBefore])
section
variable {n d i : Nat} {st : DS}
theorem f0 (h : fInv n d i st) (hi : i < 30) (x : UInt8) : fStep n d i (st.append [97] [x]) := by
  cases hd : st.dead with
  | true => simp only [DS.append, hd, if_true]; exact fStep_dead h hd
  | false =>
    obtain ⟨A, m, h1, h2, h3, h4, h5, h6⟩ := fGetA h.2.1
    have e : st.append [97] [x] = st.work fun fs => match getF [97] fs with | some f => putF ⟨[97], f.b ++ [x], f.mark⟩ fs | none => putF ⟨[97], [x], 0⟩ fs := by
      simp only [DS.append, hd, Bool.false_eq_true, if_false, h3, h4, nameOk]
      rw [if_neg (by simp), if_neg (by simp; omega)]
      rfl
    rw [e]
    refine fStep_work h hd _ ?_
    simp only [h3]
    exact fPut h.2.1 (by simp; omega) (by simp; omega)
theorem f1 (h : fInv n d i st) : fStep n d i (st.sync [97]) := by
  cases hd : st.dead with
  | true => simp only [DS.sync, hd, if_true]; exact fStep_dead h hd
  | false =>
    obtain ⟨A, m, h1, h2, h3, h4, h5, h6⟩ := fGetA h.2.1
    have e : st.sync [97] = st.work fun fs => putF ⟨[97], A, A.length⟩ fs := by
      simp only [DS.sync, hd, Bool.false_eq_true, if_false, h3]
    rw [e]
    exact fStep_work h hd _ (fPut h.2.1 (by omega) (Nat.le_refl _))
theorem f2 (h : fInv n d i st) : fStep n d i (st.cut [97] 0) := by
  cases hd : st.dead with
  | true => simp only [DS.cut, hd, if_true]; exact fStep_dead h hd
  | false =>
    obtain ⟨A, m, h1, h2, h3, h4, h5, h6⟩ := fGetA h.2.1
    have e : st.cut [97] 0 = st.work fun fs => putF ⟨[97], A.take 0, min m 0⟩ fs := by
      simp only [DS.cut, hd, Bool.false_eq_true, if_false, h3]
      rw [if_neg (by omega)]
      rfl
    rw [e]
    exact fStep_work h hd _ (fPut h.2.1 (by simp) (by simp))
theorem f3 (h : fInv n d i st) : fStep n d i (st.rename [97] [97]) := by
  cases hd : st.dead with
  | true => simp only [DS.rename, hd, if_true]; exact fStep_dead h hd
  | false =>
    obtain ⟨A, m, h1, h2, h3, h4, h5, h6⟩ := fGetA h.2.1
    have e : st.rename [97] [97] = st.work fun fs => putF ⟨[97], A, m⟩ (delF [97] fs) := by
      simp only [DS.rename, hd, Bool.false_eq_true, if_false, h3]
      rw [if_neg (by decide)]
    rw [e]
    refine fStep_work h hd _ ⟨A, m, by omega, h2, ?_⟩
    rcases h6 with e | e <;> rw [e]
    · exact .inl (by simp [putK, insK, delK])
    · exact .inr (by simp [putK, insK, delK, bytesBefore])
theorem f4 (h : fInv n d i st) (hi : i < 30) : fStep n d i (st.append [98] []) := by
  cases hd : st.dead with
  | true => simp only [DS.append, hd, if_true]; exact fStep_dead h hd
  | false =>
    obtain ⟨A, m, h1, h2, h3, h4, h5, h6⟩ := fGetA h.2.1
    have e : st.append [98] [] = st.work fun fs => match getF [98] fs with | some f => putF ⟨[98], f.b ++ [], f.mark⟩ fs | none => putF ⟨[98], [], 0⟩ fs := by
      simp only [DS.append, hd, Bool.false_eq_true, if_false, h4, nameOk]
      rw [if_neg (by simp), if_neg (by simp; omega)]
      rfl
    rw [e]
    refine fStep_work h hd _ ⟨A, m, by omega, h2, ?_⟩
    rcases h6 with e | e <;> rw [e]
    · exact .inr (by simp [putK, insK, delK, getK, bytesBefore])
    · exact .inr (by simp [putK, insK, delK, getK, bytesBefore])
theorem f5 (h : fInv n d i st) : ((st.sync [110, 111, 110, 101]).2 = st ∧ (d < n → (st.sync [110, 111, 110, 101]).1 = 70)) := by
  obtain ⟨A, m, h1, h2, h3, h4, h5, h6⟩ := fGetA h.2.1
  have hg : getF [110, 111, 110, 101] st.fs = none := by rcases h6 with e | e <;> rw [e] <;> simp [getK]
  cases hd : st.dead with
  | true =>
    simp only [DS.sync, hd, if_true]
    refine ⟨trivial, fun hlt => ?_⟩
    have := h.2.2.2
    rw [hd] at this
    rcases this with h | h
    · cases h.1
    · omega
  | false => simp only [DS.sync, hd, Bool.false_eq_true, if_false, hg]; simp
theorem f6 (h : fInv n d i st) : ((st.cut [97] (-1)).2 = st ∧ (d < n → (st.cut [97] (-1)).1 = 9)) := by
  obtain ⟨A, m, h1, h2, h3, h4, h5, h6⟩ := fGetA h.2.1
  cases hd : st.dead with
  | true =>
    simp only [DS.cut, hd, if_true]
    refine ⟨trivial, fun hlt => ?_⟩
    have := h.2.2.2
    rw [hd] at this
    rcases this with h | h
    · cases h.1
    · omega
  | false => simp only [DS.cut, hd, Bool.false_eq_true, if_false, h3]; rw [if_pos (by omega)]; simp
theorem f7 (h : st.dead = true) : st.read [97] = ([], 71) ∧ st.names = [] := by
  simp [DS.read, DS.names, h]
theorem f8 (h : fInv n d i st) (hi : i ≤ 30) : ∃ A, st.boot.read [97] = (A, 0) ∧ (st.boot.append [97] []).1 = 0 ∧ st.boot.dead = false := by
  obtain ⟨A, m, h1, h2, h3, h4, h5, h6⟩ := fGetA h.2.1
  refine ⟨A, by simp [DS.read, DS.boot, h3], ?_, rfl⟩
  simp only [DS.append, DS.boot, Bool.false_eq_true, if_false, h3, h4, nameOk]
  rw [if_neg (by simp), if_neg (by simp; omega)]
  simp [DS.work]
theorem f9 (n : Nat) : fInv n 0 0 ((⟨[⟨[97], [], 0⟩], false, -1, []⟩ : DS).fail n fKeep) := by
  refine ⟨rfl, ⟨[], 0, by simp, by simp, .inl rfl⟩, by omega, .inl ⟨rfl, ?_⟩⟩
  simp [DS.fail]
  omega
theorem fInv.stay (h : fInv n d i st) : fInv n d (i + 1) st := ⟨h.1, h.2.1.up (by omega), h.2.2⟩
end

theorem RdI.gr' {w w' : World} {v : Value} {l : List Int} (h : RdI w v l) (hg : Gr w w') : RdI w' v l := RdR.gr (fun _ _ _ _ _ h => h) hg h
theorem len_ints {w : World} {q : Option Addr} {n c : Nat} {ty : TypeId} : (Builtin.len_ #[22] ty #[.slice q n c]).run Try.prog w = .ok (.int .i64 n) w := by
  cases q <;> simp [Builtin.len_, run_underlying Try.underlying22, go_sem]
theorem fFail : ((⟨[⟨[97], [], 0⟩], false, -1, []⟩ : DS)) = ((⟨[], false, -1, []⟩ : DS).append [97] []).2 := rfl
set_option maxHeartbeats 8000000 in
theorem diskFails_walk {w : World} {vl : Value} {l : List Int} (hl : RdI w vl l) (hb : ∀ x ∈ l, -9223372036854775808 ≤ x ∧ x ≤ 9223372036854775807) (hlen : l.length ≤ 140737488355328) (n : Int) (hn : -9223372036854775808 ≤ n ∧ n ≤ 9223372036854775807) :
    Calls Try.prog 3 #[vl, .int .i64 n] w fun e w' => e = .returned (.bool true) ∧ Gr w w' := by
  obtain ⟨q, c, rfl⟩ := hl.form
  have HL := Lib.hid hl
  have HB := Lib.hid hb
  have HLN := Lib.hid hlen
  have HBr := Lib.hid (bring_any n 31 hn (by decide))
  have hbd := bring_bd n (n := 31) (by decide)
  obtain ⟨m, hm⟩ : ∃ m : Nat, bringI n 31 = m := ⟨_, (Int.toNat_of_nonneg hbd.1).symm⟩
  rw [hm] at HBr hbd
  have hm31 : m < 31 := by omega
  clear hl hb hlen hn hbd hm
  have hlenv := fun W ty => len_ints (w := W) (q := q) (n := l.length) (c := c) (ty := ty)
  go_enter Try.func3, Try.ntmps3
  go_wp2_with (go_at_call 9; refine (works_any _).mono ?_; rintro e w1 ⟨rfl, hg1⟩)
  have HG1 := Lib.hid hg1
  clear hg1
  go_wp2_with fail
  refine (new_dk w1).mono ?_
  rintro e w2 ⟨d, rfl, hd2, hg2⟩
  have HD2 := Lib.hid hd2
  have HG2 := Lib.hid (HG1.out.trans hg2)
  have HN1 : Hid (w.heap.size ≤ w1.heap.size) := Lib.hid HG1.out.size
  generalize w1.heap.size = N at *
  clear hd2 hg2 HG1
  go_wp2_with (go_at_call 11; refine (HBr.out _).mono ?_; rintro e w3 ⟨rfl, rfl⟩)
  go_wp2_with fail
  refine (append_to HD2.out (Gr.refl _) (⟨#[97]⟩ : ByteArray) (by decide) (l := []) (.inl ⟨rfl, none, 0, rfl, by decide, fun _ => rfl⟩) (by decide) (fun g hg _ => by cases hg) (c := 0) (st' := ⟨[⟨[97], [], 0⟩], false, -1, []⟩) rfl).mono ?_
  rintro e w4 ⟨rfl, hd, hf⟩
  have HD4 := Lib.hid hd
  have HG4 : Hid (Gr w w4) := Lib.hid (hf.gr HG2.out HN1.out)
  clear hd hf HD2 HG2
  go_wp2_with fail
  refine (fail_dk HD4.out ((Gr.refl _).alloc _) m (by omega) (kl := fKeep) (RdI.lit (heap_newn rfl) rfl (by decide) (by decide)) (by decide) (by decide)).mono ?_
  rintro e w5 ⟨rfl, hd, hf⟩
  have HD5 : Hid (∃ st, DK d N st w5 ∧ fInv m 0 0 st) := Lib.hid ⟨_, hd, f9 m⟩
  have HG5 : Hid (Gr w w5) := Lib.hid (hf.gr (HG4.out.alloc _) HN1.out)
  clear hd hf HD4 HG4
  go_wp2
  go_loopw [6, 7] (fun dv iv wr => ∃ dn k : Nat, dv = .int .i64 dn ∧ iv = .int .i64 k ∧ k ≤ l.length ∧ k ≤ 30 ∧ Hid (∃ st, DK d N st wr ∧ fInv m dn k st) ∧ Hid (Gr w wr)) (fun _ iv _ => l.length - (intOf iv).toNat)
  case atStart => exact ⟨0, 0, rfl, rfl, Nat.zero_le _, by omega, HD5, HG5⟩
  case round =>
    obtain ⟨dn, k, rfl, rfl, hk1, hk2, HI, HG⟩ := hrel
    have HL2 := Lib.hid (HL.out.gr' HG.out)
    have hm30 : m < 31 := hm31
    by_cases hkl : k < l.length
    · by_cases hk30 : k < 30
      · obtain ⟨bk, of, cp, e1, q1, q2, q3⟩ := HL2.out.at hkl
        cases e1
        have HX := Lib.hid (bring_any l[k] 6 (HB.out _ (List.getElem_mem hkl)) (by decide))
        have hbd := bring_bd l[k] (n := 6) (by decide)
        generalize l[k] = X at *
        unfold maxLen at q2
        obtain ⟨st, hd, hi⟩ := HI.out
        have HDs := Lib.hid hd
        have HIs := Lib.hid hi
        clear hd hi
        obtain hx | hx | hx | hx | hx | hx : bringI X 6 = 0 ∨ bringI X 6 = 1 ∨ bringI X 6 = 2 ∨ bringI X 6 = 3 ∨ bringI X 6 = 4 ∨ bringI X 6 = 5 := by omega
        · rw [hx] at HX
          clear hx hbd
          go_wp2_with (go_at_call 11; refine (HX.out _).mono ?_; rintro e w3 ⟨rfl, rfl⟩)
          refine (append_dk HDs.out ((Gr.refl _).alloc _) (⟨#[97]⟩ : ByteArray) (by decide) (l := [UInt8.ofNat k]) (Rd.lit (heap_newn rfl) (by simp [nums, UInt8.toNat_ofNat']; omega) (by simp [maxLen])) (by simp) (fun g hg _ => .inr (by cases hg; exact Nat.le_refl _))).mono ?_
          rintro e w2 ⟨rfl, hd2, hf2⟩
          have hs := f0 HIs.out hk30 (UInt8.ofNat k)
          have hs' := trivial
          have HD2 := Lib.hid hd2
          have HG2 : Hid (Gr w w2) := Lib.hid (hf2.gr (HG.out.alloc _) HN1.out)
          clear hd2 hf2
          generalize DS.append st [97] [UInt8.ofNat k] = rr at *
          obtain ⟨rc, rs⟩ := rr
          rcases hs with ⟨h1, h2, h3⟩ | ⟨h1, h2, h4, h3⟩
          · simp only at h2 h3 HD2
            subst h2
            have HI3 := Lib.hid h3
            clear h3 HI hs'
            go_wp2
            go_roundw
            case rel => exact ⟨dn + 1, k + 1, by go_num, by go_num, by omega, by omega, Lib.hid ⟨rs, HD2.out, HI3.out⟩, HG2⟩
            case measure => simp [intOf]; omega
          · simp only at h2 h3 h4 HD2
            subst h2
            subst h1
            have HI3 := Lib.hid h3
            have HR := Lib.hid (f7 h4)
            have HD4 := Lib.hid h4
            clear h3 h4 HI hs'
            go_wp2_with fail
            refine (read_to HD2.out (Gr.refl _) (⟨#[97]⟩ : ByteArray) (by decide) HR.out.1).mono ?_
            rintro e w5 ⟨v5, rfl, _, hg5⟩
            have HG5 := Lib.hid hg5
            clear hg5
            go_wp2_with (first | (go_at_call 18; refine (dead_dk HD2.out HG5.out).mono ?_; rintro e w6 ⟨rfl, rfl⟩; rw [HD4.out]) | (go_at_call 19; refine (names_dk HD2.out HG5.out).mono ?_; rintro e w7 ⟨v7, rfl, hrow, hg7⟩; rw [HR.out.2] at hrow; obtain ⟨q7, c7, rfl⟩ := ownsRow_form hrow; have hls := fun W ty => len_strs (w := W) (q := q7) (n := ([] : List (List UInt8)).length) (c := c7) (ty := ty); simp only [List.length_nil] at hls ⊢))
            go_roundw
            case rel => exact ⟨dn, k + 1, by go_num, by go_num, by omega, by omega, Lib.hid ⟨rs, HD2.out.gr (HG5.out.trans hg7), HI3.out⟩, Lib.hid (HG2.out.trans (HG5.out.trans hg7))⟩
            case measure => simp [intOf]; omega
        · rw [hx] at HX
          clear hx hbd
          go_wp2_with (go_at_call 11; refine (HX.out _).mono ?_; rintro e w3 ⟨rfl, rfl⟩)
          refine (sync_dk HDs.out (Gr.refl _) (⟨#[97]⟩ : ByteArray) (by decide)).mono ?_
          rintro e w2 ⟨rfl, hd2, hf2⟩
          have hs := f1 HIs.out
          have hs' := trivial
          have HD2 := Lib.hid hd2
          have HG2 : Hid (Gr w w2) := Lib.hid (hf2.gr HG.out HN1.out)
          clear hd2 hf2
          generalize DS.sync st [97] = rr at *
          obtain ⟨rc, rs⟩ := rr
          rcases hs with ⟨h1, h2, h3⟩ | ⟨h1, h2, h4, h3⟩
          · simp only at h2 h3 HD2
            subst h2
            have HI3 := Lib.hid h3
            clear h3 HI hs'
            go_wp2
            go_roundw
            case rel => exact ⟨dn + 1, k + 1, by go_num, by go_num, by omega, by omega, Lib.hid ⟨rs, HD2.out, HI3.out⟩, HG2⟩
            case measure => simp [intOf]; omega
          · simp only at h2 h3 h4 HD2
            subst h2
            subst h1
            have HI3 := Lib.hid h3
            have HR := Lib.hid (f7 h4)
            have HD4 := Lib.hid h4
            clear h3 h4 HI hs'
            go_wp2_with fail
            refine (read_to HD2.out (Gr.refl _) (⟨#[97]⟩ : ByteArray) (by decide) HR.out.1).mono ?_
            rintro e w5 ⟨v5, rfl, _, hg5⟩
            have HG5 := Lib.hid hg5
            clear hg5
            go_wp2_with (first | (go_at_call 18; refine (dead_dk HD2.out HG5.out).mono ?_; rintro e w6 ⟨rfl, rfl⟩; rw [HD4.out]) | (go_at_call 19; refine (names_dk HD2.out HG5.out).mono ?_; rintro e w7 ⟨v7, rfl, hrow, hg7⟩; rw [HR.out.2] at hrow; obtain ⟨q7, c7, rfl⟩ := ownsRow_form hrow; have hls := fun W ty => len_strs (w := W) (q := q7) (n := ([] : List (List UInt8)).length) (c := c7) (ty := ty); simp only [List.length_nil] at hls ⊢))
            go_roundw
            case rel => exact ⟨dn, k + 1, by go_num, by go_num, by omega, by omega, Lib.hid ⟨rs, HD2.out.gr (HG5.out.trans hg7), HI3.out⟩, Lib.hid (HG2.out.trans (HG5.out.trans hg7))⟩
            case measure => simp [intOf]; omega
        · rw [hx] at HX
          clear hx hbd
          go_wp2_with (go_at_call 11; refine (HX.out _).mono ?_; rintro e w3 ⟨rfl, rfl⟩)
          refine (cut_dk HDs.out (Gr.refl _) (⟨#[97]⟩ : ByteArray) (by decide) 0 (by decide)).mono ?_
          rintro e w2 ⟨rfl, hd2, hf2⟩
          have hs := f2 HIs.out
          have hs' := trivial
          have HD2 := Lib.hid hd2
          have HG2 : Hid (Gr w w2) := Lib.hid (hf2.gr HG.out HN1.out)
          clear hd2 hf2
          generalize DS.cut st [97] 0 = rr at *
          obtain ⟨rc, rs⟩ := rr
          rcases hs with ⟨h1, h2, h3⟩ | ⟨h1, h2, h4, h3⟩
          · simp only at h2 h3 HD2
            subst h2
            have HI3 := Lib.hid h3
            clear h3 HI hs'
            go_wp2
            go_roundw
            case rel => exact ⟨dn + 1, k + 1, by go_num, by go_num, by omega, by omega, Lib.hid ⟨rs, HD2.out, HI3.out⟩, HG2⟩
            case measure => simp [intOf]; omega
          · simp only at h2 h3 h4 HD2
            subst h2
            subst h1
            have HI3 := Lib.hid h3
            have HR := Lib.hid (f7 h4)
            have HD4 := Lib.hid h4
            clear h3 h4 HI hs'
            go_wp2_with fail
            refine (read_to HD2.out (Gr.refl _) (⟨#[97]⟩ : ByteArray) (by decide) HR.out.1).mono ?_
            rintro e w5 ⟨v5, rfl, _, hg5⟩
            have HG5 := Lib.hid hg5
            clear hg5
            go_wp2_with (first | (go_at_call 18; refine (dead_dk HD2.out HG5.out).mono ?_; rintro e w6 ⟨rfl, rfl⟩; rw [HD4.out]) | (go_at_call 19; refine (names_dk HD2.out HG5.out).mono ?_; rintro e w7 ⟨v7, rfl, hrow, hg7⟩; rw [HR.out.2] at hrow; obtain ⟨q7, c7, rfl⟩ := ownsRow_form hrow; have hls := fun W ty => len_strs (w := W) (q := q7) (n := ([] : List (List UInt8)).length) (c := c7) (ty := ty); simp only [List.length_nil] at hls ⊢))
            go_roundw
            case rel => exact ⟨dn, k + 1, by go_num, by go_num, by omega, by omega, Lib.hid ⟨rs, HD2.out.gr (HG5.out.trans hg7), HI3.out⟩, Lib.hid (HG2.out.trans (HG5.out.trans hg7))⟩
            case measure => simp [intOf]; omega
        · rw [hx] at HX
          clear hx hbd
          go_wp2_with (go_at_call 11; refine (HX.out _).mono ?_; rintro e w3 ⟨rfl, rfl⟩)
          refine (rename_dk HDs.out (Gr.refl _) (⟨#[97]⟩ : ByteArray) (⟨#[97]⟩ : ByteArray) (by decide) (by decide)).mono ?_
          rintro e w2 ⟨rfl, hd2, hf2⟩
          have hs := f3 HIs.out
          have hs' := trivial
          have HD2 := Lib.hid hd2
          have HG2 : Hid (Gr w w2) := Lib.hid (hf2.gr HG.out HN1.out)
          clear hd2 hf2
          generalize DS.rename st [97] [97] = rr at *
          obtain ⟨rc, rs⟩ := rr
          rcases hs with ⟨h1, h2, h3⟩ | ⟨h1, h2, h4, h3⟩
          · simp only at h2 h3 HD2
            subst h2
            have HI3 := Lib.hid h3
            clear h3 HI hs'
            go_wp2
            go_roundw
            case rel => exact ⟨dn + 1, k + 1, by go_num, by go_num, by omega, by omega, Lib.hid ⟨rs, HD2.out, HI3.out⟩, HG2⟩
            case measure => simp [intOf]; omega
          · simp only at h2 h3 h4 HD2
            subst h2
            subst h1
            have HI3 := Lib.hid h3
            have HR := Lib.hid (f7 h4)
            have HD4 := Lib.hid h4
            clear h3 h4 HI hs'
            go_wp2_with fail
            refine (read_to HD2.out (Gr.refl _) (⟨#[97]⟩ : ByteArray) (by decide) HR.out.1).mono ?_
            rintro e w5 ⟨v5, rfl, _, hg5⟩
            have HG5 := Lib.hid hg5
            clear hg5
            go_wp2_with (first | (go_at_call 18; refine (dead_dk HD2.out HG5.out).mono ?_; rintro e w6 ⟨rfl, rfl⟩; rw [HD4.out]) | (go_at_call 19; refine (names_dk HD2.out HG5.out).mono ?_; rintro e w7 ⟨v7, rfl, hrow, hg7⟩; rw [HR.out.2] at hrow; obtain ⟨q7, c7, rfl⟩ := ownsRow_form hrow; have hls := fun W ty => len_strs (w := W) (q := q7) (n := ([] : List (List UInt8)).length) (c := c7) (ty := ty); simp only [List.length_nil] at hls ⊢))
            go_roundw
            case rel => exact ⟨dn, k + 1, by go_num, by go_num, by omega, by omega, Lib.hid ⟨rs, HD2.out.gr (HG5.out.trans hg7), HI3.out⟩, Lib.hid (HG2.out.trans (HG5.out.trans hg7))⟩
            case measure => simp [intOf]; omega
        · rw [hx] at HX
          clear hx hbd
          go_wp2_with (go_at_call 11; refine (HX.out _).mono ?_; rintro e w3 ⟨rfl, rfl⟩)
          refine (append_dk HDs.out (Gr.refl _) (⟨#[98]⟩ : ByteArray) (by decide) (l := []) (.inl ⟨rfl, none, 0, rfl, by decide, fun _ => rfl⟩) (by decide) (fun g hg _ => by cases hg)).mono ?_
          rintro e w2 ⟨rfl, hd2, hf2⟩
          have hs := f4 HIs.out hk30
          have hs' := trivial
          have HD2 := Lib.hid hd2
          have HG2 : Hid (Gr w w2) := Lib.hid (hf2.gr HG.out HN1.out)
          clear hd2 hf2
          generalize DS.append st [98] [] = rr at *
          obtain ⟨rc, rs⟩ := rr
          rcases hs with ⟨h1, h2, h3⟩ | ⟨h1, h2, h4, h3⟩
          · simp only at h2 h3 HD2
            subst h2
            have HI3 := Lib.hid h3
            clear h3 HI hs'
            go_wp2
            go_roundw
            case rel => exact ⟨dn + 1, k + 1, by go_num, by go_num, by omega, by omega, Lib.hid ⟨rs, HD2.out, HI3.out⟩, HG2⟩
            case measure => simp [intOf]; omega
          · simp only at h2 h3 h4 HD2
            subst h2
            subst h1
            have HI3 := Lib.hid h3
            have HR := Lib.hid (f7 h4)
            have HD4 := Lib.hid h4
            clear h3 h4 HI hs'
            go_wp2_with fail
            refine (read_to HD2.out (Gr.refl _) (⟨#[97]⟩ : ByteArray) (by decide) HR.out.1).mono ?_
            rintro e w5 ⟨v5, rfl, _, hg5⟩
            have HG5 := Lib.hid hg5
            clear hg5
            go_wp2_with (first | (go_at_call 18; refine (dead_dk HD2.out HG5.out).mono ?_; rintro e w6 ⟨rfl, rfl⟩; rw [HD4.out]) | (go_at_call 19; refine (names_dk HD2.out HG5.out).mono ?_; rintro e w7 ⟨v7, rfl, hrow, hg7⟩; rw [HR.out.2] at hrow; obtain ⟨q7, c7, rfl⟩ := ownsRow_form hrow; have hls := fun W ty => len_strs (w := W) (q := q7) (n := ([] : List (List UInt8)).length) (c := c7) (ty := ty); simp only [List.length_nil] at hls ⊢))
            go_roundw
            case rel => exact ⟨dn, k + 1, by go_num, by go_num, by omega, by omega, Lib.hid ⟨rs, HD2.out.gr (HG5.out.trans hg7), HI3.out⟩, Lib.hid (HG2.out.trans (HG5.out.trans hg7))⟩
            case measure => simp [intOf]; omega
        · rw [hx] at HX
          clear hx hbd
          go_wp2_with (go_at_call 11; refine (HX.out _).mono ?_; rintro e w3 ⟨rfl, rfl⟩)
          have hr5 := f5 HIs.out
          have hr6 := f6 HIs.out
          have HR5 := Lib.hid hr5
          have HR6 := Lib.hid hr6
          clear hr5 hr6
          refine (sync_dk HDs.out (Gr.refl _) (⟨#[110, 111, 110, 101]⟩ : ByteArray) (by decide)).mono ?_
          rintro e w2 ⟨rfl, hd2, hf2⟩
          have hd3 : DK d N st w2 := by have := HR5.out.1; rw [← this]; exact hd2
          have HD3 := Lib.hid hd3
          have HG3 : Hid (Gr w w2) := Lib.hid (hf2.gr HG.out HN1.out)
          clear hd2 hf2 hd3
          have HS1 : Hid (∃ z, z = (st.sync (⟨#[110, 111, 110, 101]⟩ : ByteArray).data.toList).1 ∧ (dn < m → z = 70)) := Lib.hid ⟨_, rfl, HR5.out.2⟩
          obtain ⟨z, hz, hz2⟩ := HS1.out
          rw [← hz]
          clear hz
          go_wp2_with fail
          refine (cut_dk HD3.out (Gr.refl _) (⟨#[97]⟩ : ByteArray) (by decide) (-1) (by decide)).mono ?_
          rintro e w4 ⟨rfl, hd2, hf2⟩
          have hd3 : DK d N st w4 := by have := HR6.out.1; rw [← this]; exact hd2
          have HD4 := Lib.hid hd3
          have HG4 : Hid (Gr w w4) := Lib.hid (hf2.gr HG3.out HN1.out)
          clear hd2 hf2 hd3
          have HS2 : Hid (∃ y, y = (st.cut (⟨#[97]⟩ : ByteArray).data.toList (-1)).1 ∧ (dn < m → y = 9)) := Lib.hid ⟨_, rfl, HR6.out.2⟩
          obtain ⟨y, hy, hy2⟩ := HS2.out
          rw [← hy]
          clear hy
          by_cases hdm : dn < m
          · obtain rfl := hz2 hdm
            obtain rfl := hy2 hdm
            clear hz2 hy2
            go_wp2
            go_roundw
            case rel => exact ⟨dn, k + 1, by go_num, by go_num, by omega, by omega, Lib.hid ⟨st, HD4.out, HIs.out.stay⟩, HG4⟩
            case measure => simp [intOf]; omega
          · clear hz2 hy2
            go_wp2
            go_roundw
            case rel => exact ⟨dn, k + 1, by go_num, by go_num, by omega, by omega, Lib.hid ⟨st, HD4.out, HIs.out.stay⟩, HG4⟩
            case measure => simp [intOf]; omega
      · obtain rfl : k = 30 := by omega
        obtain ⟨st, hd, hi⟩ := HI.out
        have HDs := Lib.hid hd
        have HIs := Lib.hid hi
        clear hd hi
        obtain ⟨A, hA1, hA2, hA3⟩ := f8 HIs.out (by omega)
        have HA1 := Lib.hid hA1
        have HA2 := Lib.hid hA2
        have HA3 := Lib.hid hA3
        clear hA1 hA2 hA3
        go_wp2_with fail
        refine (boot_dk HDs.out (Gr.refl _)).mono ?_
        rintro e w2 ⟨rfl, hd2, hf2⟩
        have HD2 := Lib.hid hd2
        have HG2 : Hid (Gr w w2) := Lib.hid (hf2.gr HG.out HN1.out)
        clear hd2 hf2
        go_wp2_with fail
        refine (read_to HD2.out (Gr.refl _) (⟨#[97]⟩ : ByteArray) (by decide) HA1.out).mono ?_
        rintro e w3 ⟨v3, rfl, _, hg3⟩
        have HG3 := Lib.hid hg3
        clear hg3
        go_wp2_with (first | (go_at_call 18; refine (dead_dk HD2.out HG3.out).mono ?_; rintro e w6 ⟨rfl, rfl⟩; rw [HA3.out]) | (go_at_call 12; refine (append_dk HD2.out HG3.out (⟨#[97]⟩ : ByteArray) (by decide) (l := []) (.inl ⟨rfl, none, 0, rfl, by decide, fun _ => rfl⟩) (by decide) (fun g hg _ => by cases hg)).mono ?_; rintro e w7 ⟨rfl, hd7, hf7⟩; rw [show (st.boot.append (⟨#[97]⟩ : ByteArray).data.toList []).1 = 0 from HA2.out]))
        go_ret
        exact ⟨rfl, hf7.gr (HG2.out.trans HG3.out) HN1.out⟩
    · obtain rfl : k = l.length := by omega
      obtain ⟨st, hd, hi⟩ := HI.out
      have HDs := Lib.hid hd
      have HIs := Lib.hid hi
      clear hd hi
      obtain ⟨A, hA1, hA2, hA3⟩ := f8 HIs.out (by omega)
      have HA1 := Lib.hid hA1
      have HA2 := Lib.hid hA2
      have HA3 := Lib.hid hA3
      clear hA1 hA2 hA3
      go_wp2_with fail
      refine (boot_dk HDs.out (Gr.refl _)).mono ?_
      rintro e w2 ⟨rfl, hd2, hf2⟩
      have HD2 := Lib.hid hd2
      have HG2 : Hid (Gr w w2) := Lib.hid (hf2.gr HG.out HN1.out)
      clear hd2 hf2
      go_wp2_with fail
      refine (read_to HD2.out (Gr.refl _) (⟨#[97]⟩ : ByteArray) (by decide) HA1.out).mono ?_
      rintro e w3 ⟨v3, rfl, _, hg3⟩
      have HG3 := Lib.hid hg3
      clear hg3
      go_wp2_with (first | (go_at_call 18; refine (dead_dk HD2.out HG3.out).mono ?_; rintro e w6 ⟨rfl, rfl⟩; rw [HA3.out]) | (go_at_call 12; refine (append_dk HD2.out HG3.out (⟨#[97]⟩ : ByteArray) (by decide) (l := []) (.inl ⟨rfl, none, 0, rfl, by decide, fun _ => rfl⟩) (by decide) (fun g hg _ => by cases hg)).mono ?_; rintro e w7 ⟨rfl, hd7, hf7⟩; rw [show (st.boot.append (⟨#[97]⟩ : ByteArray).data.toList []).1 = 0 from HA2.out]))
      go_ret
      exact ⟨rfl, hf7.gr (HG2.out.trans HG3.out) HN1.out⟩
end Go.Proofs.Ytadbcikabpbogaa
