/- Layer 7: the statement on what stays. -/
import Derived.Test.YtadbcikabpbogaaDskAA
namespace Go.Proofs.Ytadbcikabpbogaa
open Go.RowKit Go.Maps
set_option maxRecDepth 100000
set_option linter.unusedVariables false
set_option linter.unusedSimpArgs false

/-- a slice of deeds that is read -/
def RD (w : World) (ds : List Value) (x : Deed) : Prop := ∃ bv kv, ds = deedV x bv kv ∧ Rd w bv x.b ∧ RdI w kv x.keep
abbrev RdD (w : World) (v : Value) (l : List Deed) : Prop := RdR RD 7 w v l
theorem RdD.gr {a b : World} {v : Value} {l : List Deed} (h : RdD a v l) (hg : Gr a b) : RdD b v l := RdR.gr (fun _ _ _ _ g ⟨y, z, h1, h2, h3⟩ => ⟨y, z, h1, h2.gr g, h3.gr' g⟩) hg h
theorem RdD.form {w : World} {v : Value} {l : List Deed} (h : RdD w v l) : ∃ q c, v = .slice q l.length c := by
  rcases h with ⟨rfl, q, c, rfl, _⟩ | ⟨blk, off, cap, rfl, _⟩
  · exact ⟨q, c, rfl⟩
  · exact ⟨_, _, rfl⟩
theorem RdD.at {w : World} {v : Value} {l : List Deed} (h : RdD w v l) {k : Nat} (hk : k < l.length) : ∃ blk off cap bv kv, v = .slice (some ⟨blk, off, none⟩) l.length cap ∧ l.length ≤ cap ∧ cap ≤ maxLen ∧ Rd w bv l[k].b ∧ RdI w kv l[k].keep ∧
    w.cell? ⟨blk, off + k * 7, none⟩ = some (.int .i64 l[k].kind) ∧ w.cell? ⟨blk, off + k * 7 + 1, none⟩ = some (.string l[k].name) ∧ w.cell? ⟨blk, off + k * 7 + 2, none⟩ = some (.string l[k].dst) ∧ w.cell? ⟨blk, off + k * 7 + 3, none⟩ = some bv ∧
    w.cell? ⟨blk, off + k * 7 + 4, none⟩ = some (.int .i64 l[k].n) ∧ w.cell? ⟨blk, off + k * 7 + 5, none⟩ = some (.int .i64 l[k].at_) ∧ w.cell? ⟨blk, off + k * 7 + 6, none⟩ = some kv := by
  rcases h with ⟨rfl, _⟩ | ⟨blk, off, cap, rfl, h1, h2, h3, h4, h5⟩
  · simp at hk
  · obtain ⟨ds, d1, d2, bv, kv, rfl, hb, hkv⟩ := h5 k hk
    have hc : ∀ j (hj : j < 7), w.cell? ⟨blk, off + k * 7 + j, none⟩ = some ((deedV l[k] bv kv)[j]'(by simpa [deedV] using hj)) := fun j hj => by rw [Nat.add_assoc]; exact d2 j (by simpa [deedV] using hj)
    exact ⟨blk, off, cap, bv, kv, rfl, h2, h3, hb, hkv, hc 0 (by decide), hc 1 (by decide), hc 2 (by decide), hc 3 (by decide), hc 4 (by decide), hc 5 (by decide), hc 6 (by decide)⟩
theorem len_deeds {w : World} {q : Option Addr} {n c : Nat} {ty : TypeId} : (Builtin.len_ #[47] ty #[.slice q n c]).run Try.prog w = .ok (.int .i64 n) w := by
  cases q <;> simp [Builtin.len_, run_underlying Try.underlying47, go_sem]

def kName : List UInt8 := [107, 101, 112, 116]
def KP (A B : List UInt8) (st : DS) : Prop := getF kName st.fs = some ⟨kName, A ++ B, A.length⟩ ∧ st.dead = false ∧ st.left = -1
theorem KP.work {A B : List UInt8} {st : DS} (h : KP A B st) (g : List DF → List DF) (hg : getF kName (g st.fs) = getF kName st.fs) : KP A B (st.work g).2 := by
  unfold DS.work
  rw [if_neg (by rw [h.2.2]; decide)]
  refine ⟨by show getF kName (g st.fs) = _; rw [hg]; exact h.1, h.2.1, ?_⟩
  show (if 0 < st.left then st.left - 1 else st.left) = -1
  rw [h.2.2]
  rfl
theorem get_other {fs : List DF} (hr : Rise DF.nm fs) {f : DF} (hne : f.nm ≠ kName) : getF kName (putF f fs) = getF kName fs := by
  show getK DF.nm kName (putK DF.nm f fs) = getK DF.nm kName fs
  rw [getK_put hr, if_neg (fun e => hne e.symm)]
theorem del_other {fs : List DF} (hr : Rise DF.nm fs) {nm : List UInt8} (hne : nm ≠ kName) : getF kName (delF nm fs) = getF kName fs := by
  show getK DF.nm kName (delK DF.nm nm fs) = getK DF.nm kName fs
  rw [getK_del hr, if_neg (fun e => hne e.symm)]
theorem KP.does {A B : List UInt8} {st : DS} (h : KP A B st) (hr : Rise DF.nm st.fs) (x : Deed) (hk : bringI x.kind 12 < 8) (hn : x.name.data.toList ≠ kName) (ht : x.dst.data.toList ≠ kName) : KP A B (st.does x).2 := by
  unfold DS.does
  split
  · unfold DS.append
    rw [if_neg (by rw [h.2.1]; decide)]
    split
    · exact h
    · split
      · exact h
      · refine h.work _ ?_
        split
        · exact get_other hr (by simpa using hn)
        · exact get_other hr (by simpa using hn)
  split
  · unfold DS.sync
    rw [if_neg (by rw [h.2.1]; decide)]
    split
    · exact h
    · exact h.work _ (get_other hr (by simpa using hn))
  split
  · unfold DS.cut
    rw [if_neg (by rw [h.2.1]; decide)]
    split
    · exact h
    · split
      · exact h
      · exact h.work _ (get_other hr (by simpa using hn))
  split
  · unfold DS.rename
    rw [if_neg (by rw [h.2.1]; decide)]
    split
    · exact h
    · split
      · exact h
      · refine h.work _ ?_
        rw [get_other (hr.del _) (by simpa using ht), del_other hr hn]
  split
  · unfold DS.remove
    rw [if_neg (by rw [h.2.1]; decide)]
    split
    · exact h
    · exact h.work _ (del_other hr hn)
  all_goals (exfalso; omega)
theorem getF_crash (keep : List Int) : ∀ (fs : List DF) (i : Nat) {f : DF}, getF kName fs = some f → ∃ j, getF kName (crashF keep i fs) = some (crashOne keep j f)
  | [], _, _, h => by simp [getK] at h
  | g :: r, i, f, h => by
    simp only [getK, List.find?_cons, crashF] at h ⊢
    have e : (crashOne keep i g).nm = g.nm := rfl
    rw [e]
    split at h
    · rename_i hg
      cases h
      exact ⟨i, rfl⟩
    · rename_i hg
      exact getF_crash keep r (i + 1) h
theorem KP.ends {A B : List UInt8} {st : DS} (h : KP A B st) (keep : List Int) : ∃ n, A.length ≤ n ∧ n ≤ (A ++ B).length ∧ ((st.crash keep).boot).read kName = ((A ++ B).take n, 0) := by
  obtain ⟨j, hj⟩ := getF_crash keep st.fs 0 h.1
  have hk : ∃ m, m ≤ (A ++ B).length - A.length ∧ crashOne keep j ⟨kName, A ++ B, A.length⟩ = ⟨kName, (A ++ B).take (A.length + m), A.length + m⟩ := by
    have h3 : (A ++ B).length = A.length + B.length := List.length_append
    cases hkj : keep[j]? with
    | none => exact ⟨0, by omega, by simp [crashOne, hkj]⟩
    | some z =>
      have h1 := Int.emod_lt_of_pos z (show 0 < ((A ++ B).length : Int) - A.length + 1 by omega)
      have h2 := Int.emod_nonneg z (show ((A ++ B).length : Int) - A.length + 1 ≠ 0 by omega)
      refine ⟨(z % (((A ++ B).length : Int) - A.length + 1)).toNat, ?_, by simp only [crashOne, hkj]⟩
      have h4 := Int.toNat_of_nonneg h2
      generalize (z % (((A ++ B).length : Int) - A.length + 1)).toNat = y at *
      generalize (z % (((A ++ B).length : Int) - A.length + 1)) = u at *
      omega
  obtain ⟨m, hm1, hm2⟩ := hk
  have : (A ++ B).length = A.length + B.length := List.length_append
  refine ⟨A.length + m, by omega, by omega, ?_⟩
  rw [hm2] at hj
  simp only [DS.read, DS.boot, DS.crash, h.2.1, Bool.false_eq_true, if_false]
  rw [hj]

theorem str_cat (s t : List UInt8) (a b : ByteArray) (ha : a.data.toList = s) : True := trivial
theorem xName (s : ByteArray) : ((⟨#[120]⟩ : ByteArray) ++ s).data.toList ≠ kName := by
  intro e
  have := congrArg List.head? e
  simp [kName] at this
theorem yName (s : ByteArray) : ((⟨#[121]⟩ : ByteArray) ++ s).data.toList ≠ kName := by
  intro e
  have := congrArg List.head? e
  simp [kName] at this
theorem cat_size (c : UInt8) (s : ByteArray) : ((⟨#[c]⟩ : ByteArray) ++ s).size = s.size + 1 := by
  simp [ByteArray.size_append]
  show 1 + s.size = s.size + 1
  omega
theorem RdI.lt {w : World} {v : Value} {l : List Int} (h : RdI w v l) {g : Nat} (hg : v.ownBlock = some g) (hne : l ≠ []) : g < w.heap.size := by
  rcases h with ⟨h, _⟩ | ⟨blk, off, cap, rfl, h1, h2, h3, h4, h5⟩
  · exact absurd h hne
  · cases hg; exact h4
section
variable (A B : List UInt8)
def kst1 : DS := ⟨[⟨kName, A, 0⟩], false, -1, []⟩
def kst2 : DS := ⟨[⟨kName, A, A.length⟩], false, -1, []⟩
def kst3 : DS := ⟨[⟨kName, A ++ B, A.length⟩], false, -1, []⟩
theorem k_1 (h : A.length ≤ 1000) : (⟨[], false, -1, []⟩ : DS).append kName A = (0, kst1 A) := by
  have : ¬ 4194304 < A.length := by omega
  simp [DS.append, nameOk, getK, DS.work, putK, insK, delK, allF, this, kst1, kName]
theorem k_2 : (kst1 A).sync kName = (0, kst2 A) := by
  simp [DS.sync, getK, DS.work, putK, insK, delK, kst1, kst2, kName]
theorem k_3 (h : A.length ≤ 1000) (h2 : B.length ≤ 1000) : (kst2 A).append kName B = (0, kst3 A B) := by
  have : ¬ 4194304 < A.length + B.length := by omega
  simp [DS.append, nameOk, getK, DS.work, putK, insK, delK, allF, this, kst2, kst3, kName]
theorem k_4 : KP A B (kst3 A B) := ⟨by simp [kst3, getK], rfl, rfl⟩
end
set_option maxHeartbeats 8000000 in
theorem diskKeeps_walk {w : World} {vl va vb : Value} {l : List Deed} {a b : List UInt8} (hl : RdD w vl l) (hlen : l.length ≤ 140737488355328) (hok : ∀ x ∈ l, DeedOk x) (hnm : ∀ x ∈ l, x.name.size ≤ 140737488355327 ∧ x.dst.size ≤ 140737488355327) (ha : Rd w va a) (hb : Rd w vb b) (hla : a.length ≤ 140737488355328) (hlb : b.length ≤ 140737488355328) :
    Calls Try.prog 6 #[vl, va, vb] w fun e w' => e = .returned (.bool true) ∧ Gr w w' := by
  obtain ⟨q, c, rfl⟩ := hl.form
  have HL := Lib.hid hl
  have HLN := Lib.hid hlen
  have HOK := Lib.hid hok
  have HNM := Lib.hid hnm
  clear hl hlen hok hnm
  obtain ⟨aq, an, ac, rfl⟩ := ha.slice'
  obtain ⟨bq, bn, bc, rfl⟩ := hb.slice'
  obtain ⟨rfl, hac, hac2⟩ := ha.nc
  obtain ⟨rfl, hbc, hbc2⟩ := hb.nc
  unfold maxLen at hac2 hbc2
  have HA := Lib.hid (ha.take (min a.length 1000) (by omega))
  have HB := Lib.hid (hb.take (min b.length 1000) (by omega))
  have hlen1 := fun W ty => len_u8 (w := W) (q := aq) (n := a.length) (c := ac) (ty := ty)
  have hlen2 := fun W ty => len_u8 (w := W) (q := bq) (n := b.length) (c := bc) (ty := ty)
  have hmin : (min (a.length : Int) 1000) = ((min a.length 1000 : Nat) : Int) := by omega
  have hmin2 : (min (b.length : Int) 1000) = ((min b.length 1000 : Nat) : Int) := by omega
  have hm1 : min a.length 1000 ≤ ac := by omega
  have hm2 : min b.length 1000 ≤ bc := by omega
  go_enter Try.func6, Try.ntmps6
  go_wp2_with (go_at_call 9; refine (works_any _).mono ?_; rintro e w1 ⟨rfl, hg1⟩)
  have HG1 := Lib.hid hg1
  clear hg1
  go_wp2_with fail
  refine (new_dk w1).mono ?_
  rintro e w2 ⟨d, rfl, hd2, hg2⟩
  have HD2 := Lib.hid hd2
  have HG2 := Lib.hid (HG1.out.trans hg2)
  have HN1 : Hid (w.heap.size ≤ w1.heap.size) := Lib.hid HG1.out.size
  clear hd2 hg2
  go_wp2
  go_region
  clear hlen1 hlen2 hmin hmin2 hm1 hm2
  have hA1 : (a.take (min a.length 1000)).length = min a.length 1000 := by rw [List.length_take]; omega
  have hB1 : (b.take (min b.length 1000)).length = min b.length 1000 := by rw [List.length_take]; omega
  have hA2 : min a.length 1000 ≤ 1000 := by omega
  have hB2 : min b.length 1000 ≤ 1000 := by omega
  generalize a.take (min a.length 1000) = A at *
  generalize b.take (min b.length 1000) = B at *
  rw [← hA1] at hA2 HA ⊢
  rw [← hB1] at hB2 HB ⊢
  clear ha hb hA1 hB1 hac hac2 hbc hbc2 hla hlb
  have HA2 := Lib.hid hA2
  have HB2 := Lib.hid hB2
  have HG3 : Hid (Gr w w2.drew) := Lib.hid HG2.out.drew
  have HD3 := Lib.hid (HD2.out.gr (Gr.refl _).drew)
  generalize w2.drew = w3 at *
  generalize w1.heap.size = N at *
  have HvA : Hid (∀ g, (Value.slice aq A.length ac).ownBlock = some g → A ≠ [] → g < N) := Lib.hid (fun g hg hne => Nat.lt_of_lt_of_le (HA.out.lt hg hne) HN1.out)
  have HvB : Hid (∀ g, (Value.slice bq B.length bc).ownBlock = some g → B ≠ [] → g < N) := Lib.hid (fun g hg hne => Nat.lt_of_lt_of_le (HB.out.lt hg hne) HN1.out)
  clear hA2 hB2 HG1 HG2 HD2
  go_wp2_with fail
  refine (append_to HD3.out (Gr.refl _) (⟨#[107, 101, 112, 116]⟩ : ByteArray) (by decide) (HA.out.gr HG3.out) (by have := HA2.out; omega) (fun g hg hne => .inl (HvA.out g hg hne)) (k_1 A HA2.out)).mono ?_
  rintro e w4 ⟨rfl, hd, hf⟩
  have HD4 := Lib.hid hd
  have HG4 : Hid (Gr w w4) := Lib.hid (hf.gr HG3.out HN1.out)
  clear hd hf
  go_wp2_with fail
  refine (sync_to HD4.out (Gr.refl _) (⟨#[107, 101, 112, 116]⟩ : ByteArray) (by decide) (k_2 A)).mono ?_
  rintro e w5 ⟨rfl, hd, hf⟩
  have HD5 := Lib.hid hd
  have HG5 : Hid (Gr w w5) := Lib.hid (hf.gr HG4.out HN1.out)
  clear hd hf
  go_wp2_with fail
  refine (append_to HD5.out (Gr.refl _) (⟨#[107, 101, 112, 116]⟩ : ByteArray) (by decide) (HB.out.gr HG5.out) (by have := HB2.out; omega) (fun g hg hne => .inl (HvB.out g hg hne)) (k_3 A B HA2.out HB2.out)).mono ?_
  rintro e w6 ⟨rfl, hd, hf⟩
  have HD6 : Hid (∃ st, DK d N st w6 ∧ KP A B st) := Lib.hid ⟨_, hd, k_4 A B⟩
  have HG6 : Hid (Gr w w6) := Lib.hid (hf.gr HG5.out HN1.out)
  clear hd hf HD3 HD4 HD5 HG3 HG4 HG5 HvA HvB
  have hlenv := fun W ty => len_deeds (w := W) (q := q) (n := l.length) (c := c) (ty := ty)
  go_wp2
  go_loopw [8, 9] (fun kv iv wr => ∃ k : Nat, iv = .int .i64 k ∧ k ≤ l.length ∧ k ≤ 100 ∧ Hid (∃ kl, RdI w kv kl ∧ ∀ z ∈ kl, I64 z) ∧ Hid (∃ st, DK d N st wr ∧ KP A B st) ∧ Hid (Gr w wr)) (fun _ iv _ => l.length - (intOf iv).toNat)
  case atStart => exact ⟨0, rfl, Nat.zero_le _, by omega, Lib.hid ⟨[], .inl ⟨rfl, none, 0, rfl, by decide, fun _ => rfl⟩, by simp⟩, HD6, HG6⟩
  case round =>
    obtain ⟨k, rfl, hk1, hk2, HK, HD, HG⟩ := hrel
    by_cases hkl : k < l.length
    · by_cases hk100 : k < 100
      · obtain ⟨bk, of, cp, bv, kv, e1, q1, q2, q3, q4, c0, c1, c2, c3, c4, c5, c6⟩ := HL.out.at hkl
        cases e1
        have HX := Lib.hid (HOK.out _ (List.getElem_mem hkl))
        have HY := Lib.hid (HNM.out _ (List.getElem_mem hkl))
        generalize l[k] = x at *
        obtain ⟨xq, xn, xc, rfl⟩ := q3.slice'
        obtain ⟨rfl, hxc, hxc2⟩ := q3.nc
        obtain ⟨kq, kc, rfl⟩ := q4.form
        replace c0 := HG.out.cell' c0
        replace c1 := HG.out.cell' c1
        replace c2 := HG.out.cell' c2
        replace c3 := HG.out.cell' c3
        replace c4 := HG.out.cell' c4
        replace c5 := HG.out.cell' c5
        replace c6 := HG.out.cell' c6
        have hcat1 : ¬ 140737488355328 < 1 + x.name.size := by have := HY.out; omega
        have hcat2 : ¬ 140737488355328 < 1 + x.dst.size := by have := HY.out; omega
        have hxlen := fun W ty => len_u8 (w := W) (q := xq) (n := x.b.length) (c := xc) (ty := ty)
        have hmin : (min (x.b.length : Int) 2000) = ((min x.b.length 2000 : Nat) : Int) := by omega
        have hm1 : min x.b.length 2000 ≤ xc := by omega
        have HB3 := Lib.hid (q3.take (min x.b.length 2000) (by omega))
        have HK3 := Lib.hid q4
        clear q3 q4
        unfold maxLen at q2 hxc2
        have HBr := Lib.hid (bring_any x.kind 12 HX.out.kind (by decide))
        have hbd := bring_bd x.kind (n := 12) (by decide)
        obtain ⟨m, hm⟩ : ∃ m : Nat, bringI x.kind 12 = m := ⟨_, (Int.toNat_of_nonneg hbd.1).symm⟩
        rw [hm] at HBr hbd
        have HM := Lib.hid hm
        clear hm
        obtain ⟨st, hd, hkp⟩ := HD.out
        have HDs := Lib.hid (hd.off (Gr.refl _) (fun _ => False) (fun _ h => h.elim))
        have HKP := Lib.hid hkp
        clear hd hkp
        have HKx : Hid (∃ kl, RdI w (.slice kq x.keep.length kc) kl ∧ ∀ z ∈ kl, I64 z) := Lib.hid ⟨_, HK3.out, HX.out.keep⟩
        by_cases h8 : m < 8
        · go_wp2_with (go_at_call 11; refine (HBr.out _).mono ?_; rintro e w7 ⟨rfl, rfl⟩)
          have HX2 : Hid (DeedOk ⟨x.kind, (⟨#[120]⟩ : ByteArray) ++ x.name, (⟨#[121]⟩ : ByteArray) ++ x.dst, x.b.take (min x.b.length 2000), x.n, x.at_, x.keep⟩) := Lib.hid ⟨HX.out.kind, by simp only [cat_size]; have := HY.out; unfold maxLen; omega, by simp only [cat_size]; have := HY.out; unfold maxLen; omega, by simp only [List.length_take]; omega, HX.out.n, HX.out.at_, HX.out.keep⟩
          refine (does_dko HDs.out ((Gr.refl _).alloc _) (fun _ h => h.elim) ⟨x.kind, (⟨#[120]⟩ : ByteArray) ++ x.name, (⟨#[121]⟩ : ByteArray) ++ x.dst, x.b.take (min x.b.length 2000), x.n, x.at_, x.keep⟩ HX2.out (bv := .slice xq (min x.b.length 2000) xc) (kv := .slice kq x.keep.length kc) (HB3.out.gr (HG.out.alloc _)) (HK3.out.gr' (HG.out.alloc _)) (fun g hg hne => .inl (Nat.lt_of_lt_of_le (HB3.out.lt hg hne) HN1.out)) (fun g hg hne => .inl (Nat.lt_of_lt_of_le (RdI.lt HK3.out hg hne) HN1.out)) (fun h => by simp only [HM.out] at h; omega)).mono ?_
          rintro e w8 ⟨rfl, hd, hf⟩
          have hkp2 := HKP.out.does HDs.out.rise (x := ⟨x.kind, (⟨#[120]⟩ : ByteArray) ++ x.name, (⟨#[121]⟩ : ByteArray) ++ x.dst, x.b.take (min x.b.length 2000), x.n, x.at_, x.keep⟩) (by simp only [HM.out]; omega) (xName _) (yName _)
          have HD8 : Hid (∃ st, DK d N st w8 ∧ KP A B st) := Lib.hid ⟨_, hd.dk, hkp2⟩
          have HG8 : Hid (Gr w w8) := Lib.hid (hf.gr (HG.out.alloc _) HN1.out)
          clear hd hf hkp2
          generalize (st.does _).1 = rz
          go_wp2
          go_roundw
          case rel => exact ⟨k + 1, by go_num, by omega, by omega, HKx, HD8, HG8⟩
          case measure => simp [intOf]; omega
        · go_wp2_with (go_at_call 11; refine (HBr.out _).mono ?_; rintro e w7 ⟨rfl, rfl⟩)
          go_roundw
          case rel => exact ⟨k + 1, by go_num, by omega, by omega, HKx, Lib.hid ⟨st, HDs.out.dk.gr ((Gr.refl _).alloc _), HKP.out⟩, Lib.hid (HG.out.alloc _)⟩
          case measure => simp [intOf]; omega
      · obtain rfl : k = 100 := by omega
        obtain ⟨st, hd, hkp⟩ := HD.out
        obtain ⟨kl, hk1', hk2'⟩ := HK.out
        have HDs := Lib.hid hd
        have HKl := Lib.hid hk1'
        have HKb := Lib.hid hk2'
        obtain ⟨n, hn1, hn2, hn3⟩ := hkp.ends kl
        have HN3 := Lib.hid hn3
        have HLT : Hid ((A ++ B).length = A.length + B.length) := Lib.hid List.length_append
        have HNN := Lib.hid hn1
        have HNM2 := Lib.hid hn2
        clear hd hkp hk1' hk2' HK HD hn1 hn2 hn3
        go_wp2_with fail
        refine (crash_dk HDs.out (Gr.refl _) (HKl.out.gr' HG.out) HKb.out (fun g hg hne => .inl (Nat.lt_of_lt_of_le (RdI.lt HKl.out hg hne) HN1.out))).mono ?_
        rintro e w7 ⟨rfl, hd, hf⟩
        have HD7 := Lib.hid hd
        have HG7 : Hid (Gr w w7) := Lib.hid (hf.gr HG.out HN1.out)
        clear hd hf
        go_wp2_with fail
        refine (boot_dk HD7.out (Gr.refl _)).mono ?_
        rintro e w8 ⟨rfl, hd, hf⟩
        have HD8 := Lib.hid hd
        have HG8 : Hid (Gr w w8) := Lib.hid (hf.gr HG7.out HN1.out)
        clear hd hf
        go_wp2_with fail
        refine (read_to HD8.out (Gr.refl _) (⟨#[107, 101, 112, 116]⟩ : ByteArray) (by decide) HN3.out).mono ?_
        rintro e w9 ⟨v9, rfl, ho, hg⟩
        have HO9 := Lib.hid ho
        have HG9 : Hid (Gr w w9) := Lib.hid (HG8.out.trans hg)
        clear ho hg
        go_wp2_with fail
        refine (copyBytes_any (HA.out.gr HG9.out) (by have := HA2.out; omega)).mono ?_
        rintro e w10 ⟨v10, rfl, ho10, hg10⟩
        have HO10 := Lib.hid ho10
        have HG10 : Hid (Gr w w10) := Lib.hid (HG9.out.trans hg10)
        have HO9b := Lib.hid (HO9.out.gr hg10)
        have HS9 := Lib.hid hg10.size
        have HGA := Lib.hid hg10
        clear ho10 hg10
        go_wp2_with (at_builtin; refine app_rd (N := w9.heap.size) HS9.out (by rfl) _ _ (by rfl) A B (by rfl) (by rfl) HO10.out (HB.out.gr HG10.out) (by have := HA2.out; have := HB2.out; omega) ?_; intro v11 w11 hown11 hgb11)
        have hg11 : Gr w9 w11 := HO10.out.grew HGA.out hgb11
        have HO11 := Lib.hid hown11
        have HO9c := Lib.hid (HO9.out.gr hg11)
        have HG11 : Hid (Gr w w11) := Lib.hid (HG9.out.trans hg11)
        clear hown11 hgb11 hg11 HO9b
        obtain ⟨q9, n9, c9, rfl⟩ := HO9c.out.rd.slice'
        obtain ⟨hn9, hc9, hm9⟩ := HO9c.out.rd.nc
        obtain ⟨q11, n11, c11, rfl⟩ := HO11.out.rd.slice'
        obtain ⟨hn11, hc11, hm11⟩ := HO11.out.rd.nc
        have e9 : n9 = n := by rw [hn9, List.length_take]; have := HNM2.out; omega
        have e11 : n11 = A.length + B.length := by rw [hn11, HLT.out]
        subst e9 e11
        have hl9 := fun W ty => len_u8 (w := W) (q := q9) (n := n9) (c := c9) (ty := ty)
        have hl11 := fun W ty => len_u8 (w := W) (q := q11) (n := A.length + B.length) (c := c11) (ty := ty)
        have hlA := fun W ty => len_u8 (w := W) (q := aq) (n := A.length) (c := ac) (ty := ty)
        have hge : A.length ≤ n9 := HNN.out
        have hle : n9 ≤ A.length + B.length := by have := HNM2.out; rw [HLT.out] at this; exact this
        have hcc : n9 ≤ c11 := by rw [HLT.out] at hc11; omega
        clear hn9 hc9 hn11 hc11 hm9
        have HCC := Lib.hid hm11
        clear hm11
        go_wp2_with fail
        rw [hl9]
        go_wp2_with fail
        refine (eqBytes_any HO9c.out.rd (HO11.out.rd.take n9 HNM2.out) (by rw [List.length_take]; have := HNM2.out; have := HA2.out; have := HB2.out; have := HLT.out; omega)).mono ?_
        rintro e w12 ⟨rfl, hg12⟩
        have hdt : decide ((A ++ B).take n9 = (A ++ B).take n9) = true := by simp
        rw [hdt]
        go_wp2
        go_ret
        exact ⟨rfl, HG11.out.trans hg12⟩
    · obtain rfl : k = l.length := by omega
      obtain ⟨st, hd, hkp⟩ := HD.out
      obtain ⟨kl, hk1', hk2'⟩ := HK.out
      have HDs := Lib.hid hd
      have HKl := Lib.hid hk1'
      have HKb := Lib.hid hk2'
      obtain ⟨n, hn1, hn2, hn3⟩ := hkp.ends kl
      have HN3 := Lib.hid hn3
      have HLT : Hid ((A ++ B).length = A.length + B.length) := Lib.hid List.length_append
      have HNN := Lib.hid hn1
      have HNM2 := Lib.hid hn2
      clear hd hkp hk1' hk2' HK HD hn1 hn2 hn3
      go_wp2_with fail
      refine (crash_dk HDs.out (Gr.refl _) (HKl.out.gr' HG.out) HKb.out (fun g hg hne => .inl (Nat.lt_of_lt_of_le (RdI.lt HKl.out hg hne) HN1.out))).mono ?_
      rintro e w7 ⟨rfl, hd, hf⟩
      have HD7 := Lib.hid hd
      have HG7 : Hid (Gr w w7) := Lib.hid (hf.gr HG.out HN1.out)
      clear hd hf
      go_wp2_with fail
      refine (boot_dk HD7.out (Gr.refl _)).mono ?_
      rintro e w8 ⟨rfl, hd, hf⟩
      have HD8 := Lib.hid hd
      have HG8 : Hid (Gr w w8) := Lib.hid (hf.gr HG7.out HN1.out)
      clear hd hf
      go_wp2_with fail
      refine (read_to HD8.out (Gr.refl _) (⟨#[107, 101, 112, 116]⟩ : ByteArray) (by decide) HN3.out).mono ?_
      rintro e w9 ⟨v9, rfl, ho, hg⟩
      have HO9 := Lib.hid ho
      have HG9 : Hid (Gr w w9) := Lib.hid (HG8.out.trans hg)
      clear ho hg
      go_wp2_with fail
      refine (copyBytes_any (HA.out.gr HG9.out) (by have := HA2.out; omega)).mono ?_
      rintro e w10 ⟨v10, rfl, ho10, hg10⟩
      have HO10 := Lib.hid ho10
      have HG10 : Hid (Gr w w10) := Lib.hid (HG9.out.trans hg10)
      have HO9b := Lib.hid (HO9.out.gr hg10)
      have HS9 := Lib.hid hg10.size
      have HGA := Lib.hid hg10
      clear ho10 hg10
      go_wp2_with (at_builtin; refine app_rd (N := w9.heap.size) HS9.out (by rfl) _ _ (by rfl) A B (by rfl) (by rfl) HO10.out (HB.out.gr HG10.out) (by have := HA2.out; have := HB2.out; omega) ?_; intro v11 w11 hown11 hgb11)
      have hg11 : Gr w9 w11 := HO10.out.grew HGA.out hgb11
      have HO11 := Lib.hid hown11
      have HO9c := Lib.hid (HO9.out.gr hg11)
      have HG11 : Hid (Gr w w11) := Lib.hid (HG9.out.trans hg11)
      clear hown11 hgb11 hg11 HO9b
      obtain ⟨q9, n9, c9, rfl⟩ := HO9c.out.rd.slice'
      obtain ⟨hn9, hc9, hm9⟩ := HO9c.out.rd.nc
      obtain ⟨q11, n11, c11, rfl⟩ := HO11.out.rd.slice'
      obtain ⟨hn11, hc11, hm11⟩ := HO11.out.rd.nc
      have e9 : n9 = n := by rw [hn9, List.length_take]; have := HNM2.out; omega
      have e11 : n11 = A.length + B.length := by rw [hn11, HLT.out]
      subst e9 e11
      have hl9 := fun W ty => len_u8 (w := W) (q := q9) (n := n9) (c := c9) (ty := ty)
      have hl11 := fun W ty => len_u8 (w := W) (q := q11) (n := A.length + B.length) (c := c11) (ty := ty)
      have hlA := fun W ty => len_u8 (w := W) (q := aq) (n := A.length) (c := ac) (ty := ty)
      have hge : A.length ≤ n9 := HNN.out
      have hle : n9 ≤ A.length + B.length := by have := HNM2.out; rw [HLT.out] at this; exact this
      have hcc : n9 ≤ c11 := by rw [HLT.out] at hc11; omega
      clear hn9 hc9 hn11 hc11 hm9
      have HCC := Lib.hid hm11
      clear hm11
      go_wp2_with fail
      rw [hl9]
      go_wp2_with fail
      refine (eqBytes_any HO9c.out.rd (HO11.out.rd.take n9 HNM2.out) (by rw [List.length_take]; have := HNM2.out; have := HA2.out; have := HB2.out; have := HLT.out; omega)).mono ?_
      rintro e w12 ⟨rfl, hg12⟩
      have hdt : decide ((A ++ B).take n9 = (A ++ B).take n9) = true := by simp
      rw [hdt]
      go_wp2
      go_ret
      exact ⟨rfl, HG11.out.trans hg12⟩
end Go.Proofs.Ytadbcikabpbogaa
