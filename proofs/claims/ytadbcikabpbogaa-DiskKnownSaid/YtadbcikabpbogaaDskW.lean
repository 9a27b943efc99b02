/- Layer 7: the statement on moves. -/
import Derived.Test.YtadbcikabpbogaaDskVO
import Derived.Lib.SlBytesConst
namespace Go.Proofs.Ytadbcikabpbogaa
open Go.RowKit Go.Maps
set_option maxRecDepth 100000
set_option linter.unusedVariables false
set_option linter.unusedSimpArgs false

theorem Rd.take {w : World} {q : Option Addr} {n c : Nat} {l : List UInt8} (h : Rd w (.slice q n c) l) (k : Nat) (hk : k ≤ l.length) : Rd w (.slice q k c) (l.take k) := by
  have hl : (l.take k).length = k := by rw [List.length_take]; omega
  rcases h with ⟨rfl, q', c', h1, h2, h3⟩ | ⟨blk, off, cap, h1, h2, h3, h4, h5⟩
  · cases h1
    obtain rfl : k = 0 := by simpa using hk
    exact .inl ⟨rfl, _, _, rfl, h2, h3⟩
  · cases h1
    refine .inr ⟨blk, off, _, by rw [hl], by omega, h3, h4, fun j hj => ?_⟩
    rw [h5 j (by omega)]
    simp
theorem Rd.nc {w : World} {q : Option Addr} {n c : Nat} {l : List UInt8} (h : Rd w (.slice q n c) l) : n = l.length ∧ l.length ≤ c ∧ c ≤ maxLen := by
  rcases h with ⟨rfl, q', c', h1, h2, h3⟩ | ⟨blk, off, cap, h1, h2, h3, h4, h5⟩
  · cases h1; exact ⟨rfl, Nat.zero_le _, h2⟩
  · cases h1; exact ⟨rfl, h2, h3⟩
section
variable (A B : List UInt8)
def mv1 : DS := ⟨[⟨[97], A, 0⟩], false, -1, []⟩
def mv2 : DS := ⟨[⟨[97], A, A.length⟩], false, -1, []⟩
def mv3 : DS := ⟨[⟨[97], A ++ B, A.length⟩], false, -1, []⟩
def mv4 : DS := ⟨[⟨[97], A ++ B, A.length⟩, ⟨[98], [101, 108, 100, 101, 114], 0⟩], false, -1, []⟩
def mv5 : DS := ⟨[⟨[98], A ++ B, A.length⟩], false, -1, []⟩
theorem mv_1 (h : A.length ≤ 100) : (⟨[], false, -1, []⟩ : DS).append [97] A = (0, mv1 A) := by
  have : ¬ 4194304 < A.length := by omega
  simp [DS.append, nameOk, getK, DS.work, putK, insK, delK, allF, this, mv1]
theorem mv_2 : (mv1 A).sync [97] = (0, mv2 A) := by
  simp [DS.sync, getK, DS.work, putK, insK, delK, mv1, mv2]
theorem mv_3 (h : A.length ≤ 100) (h2 : B.length ≤ 100) : (mv2 A).append [97] B = (0, mv3 A B) := by
  have : ¬ 4194304 < A.length + B.length := by omega
  simp [DS.append, nameOk, getK, DS.work, putK, insK, delK, allF, this, mv2, mv3]
theorem mv_4 (h : A.length ≤ 100) (h2 : B.length ≤ 100) : (mv3 A B).append [98] [101, 108, 100, 101, 114] = (0, mv4 A B) := by
  have : ¬ 4194304 < A.length + B.length + 5 := by omega
  simp [DS.append, nameOk, getK, DS.work, putK, insK, delK, allF, this, mv3, mv4, bytesBefore]
theorem mv_5 : (mv4 A B).rename [97] [98] = (0, mv5 A B) := by
  simp [DS.rename, nameOk, getK, DS.work, putK, insK, delK, mv4, mv5]
theorem mv_6 : (mv5 A B).read [97] = ([], 70) := by simp [DS.read, getK, mv5]
theorem mv_7 : (mv5 A B).read [98] = (A ++ B, 0) := by simp [DS.read, getK, mv5]
theorem mv_8 : (mv5 A B).rename [98] [98] = (0, mv5 A B) := by
  simp [DS.rename, nameOk, getK, DS.work, putK, insK, delK, mv5]
theorem mv_9 (k : Int) : ((mv5 A B).crash [k]).boot = ⟨[⟨[98], (A ++ B).take (A.length + (bringI k (B.length + 1)).toNat), A.length + (bringI k (B.length + 1)).toNat⟩], false, -1, []⟩ := by
  have e : ((A ++ B).length : Int) - A.length + 1 = B.length + 1 := by simp; omega
  simp only [DS.crash, DS.boot, mv5, crashF, crashOne, List.getElem?_cons_zero, Bool.false_eq_true, if_false, e, bringI]
  rw [if_neg (by omega)]
theorem mv_10 (X : List UInt8) (m : Nat) : (⟨[⟨[98], X, m⟩], false, -1, []⟩ : DS).read [98] = (X, 0) := by simp [DS.read, getK]
end
theorem Own.frO {N M : Nat} {O : Nat → Prop} {w w' : World} {v : Value} {l : List UInt8} (h : Own w M v l) (hf : FrO N O w w') (hO : ∀ g, v.ownBlock = some g → O g) : Own w' M v l := h.blk (fun g o hg ho => hf.blk _ _ ho (fun hk => hk.2 (hO g hg)))
theorem len_strs {w : World} {q : Option Addr} {n c : Nat} {ty : TypeId} : (Builtin.len_ #[36] ty #[.slice q n c]).run Try.prog w = .ok (.int .i64 n) w := by
  cases q <;> simp [Builtin.len_, run_underlying Try.underlying36, go_sem]
theorem ownsRow_form {w : World} {N : Nat} {t : TypeId} {v : Value} {n : Nat} {xs : List Value} (h : w.ownsRow N t 1 v n xs) : ∃ (q : Option Addr) (c : Nat), v = .slice q n c := by
  rcases h.2 with ⟨rfl, rfl⟩ | ⟨g, cap, cur, rfl, _⟩
  · exact ⟨none, 0, rfl⟩
  · exact ⟨_, _, rfl⟩
set_option maxHeartbeats 4000000 in
theorem diskMoves_walk {w : World} {va vb : Value} {a b : List UInt8} (ha : Rd w va a) (hb : Rd w vb b) (hla : a.length ≤ 140737488355328) (hlb : b.length ≤ 140737488355328) (k : Int) (hk : -9223372036854775808 ≤ k ∧ k ≤ 9223372036854775807) :
    Calls Try.prog 4 #[va, vb, .int .i64 k] w fun e w' => e = .returned (.bool true) ∧ Gr w w' := by
  obtain ⟨aq, an, ac, rfl⟩ := ha.slice'
  obtain ⟨bq, bn, bc, rfl⟩ := hb.slice'
  obtain ⟨rfl, hac, hac2⟩ := ha.nc
  obtain ⟨rfl, hbc, hbc2⟩ := hb.nc
  unfold maxLen at hac2 hbc2
  have HA := Lib.hid (ha.take (min a.length 100) (by omega))
  have HB := Lib.hid (hb.take (min b.length 100) (by omega))
  have hlen1 := fun W ty => len_u8 (w := W) (q := aq) (n := a.length) (c := ac) (ty := ty)
  have hlen2 := fun W ty => len_u8 (w := W) (q := bq) (n := b.length) (c := bc) (ty := ty)
  have hmin : (min (a.length : Int) 100) = ((min a.length 100 : Nat) : Int) := by omega
  have hmin2 : (min (b.length : Int) 100) = ((min b.length 100 : Nat) : Int) := by omega
  have hm1 : min a.length 100 ≤ ac := by omega
  have hm2 : min b.length 100 ≤ bc := by omega
  go_enter Try.func4, Try.ntmps4
  go_wp2_with (go_at_call 9; refine (works_any _).mono ?_; rintro e w1 ⟨rfl, hg1⟩)
  have HG1 := Lib.hid hg1
  clear hg1
  go_region
  clear hlen1 hlen2 hmin hmin2 hm1 hm2
  have hA1 : (a.take (min a.length 100)).length = min a.length 100 := by rw [List.length_take]; omega
  have hB1 : (b.take (min b.length 100)).length = min b.length 100 := by rw [List.length_take]; omega
  have hA2 : min a.length 100 ≤ 100 := by omega
  have hB2 : min b.length 100 ≤ 100 := by omega
  generalize a.take (min a.length 100) = A at *
  generalize b.take (min b.length 100) = B at *
  rw [← hA1] at hA2 HA ⊢
  rw [← hB1] at hB2 HB ⊢
  clear ha hb hA1 hB1 hac hac2 hbc hbc2 hla hlb
  have HA2 := Lib.hid hA2
  have HB2 := Lib.hid hB2
  have HK := Lib.hid hk
  have HG2 : Hid (Gr w w1.drew) := Lib.hid HG1.out.drew
  generalize w1.drew = w2 at *
  have HvA : Hid (∀ g, (Value.slice aq A.length ac).ownBlock = some g → A ≠ [] → g < w2.heap.size) := Lib.hid (fun g hg hne => Nat.lt_of_lt_of_le (HA.out.lt hg hne) HG2.out.size)
  have HvB : Hid (∀ g, (Value.slice bq B.length bc).ownBlock = some g → B ≠ [] → g < w2.heap.size) := Lib.hid (fun g hg hne => Nat.lt_of_lt_of_le (HB.out.lt hg hne) HG2.out.size)
  clear hA2 hB2 hk HG1
  go_wp2_with fail
  refine (new_dk w2).mono ?_
  rintro e w3 ⟨d, rfl, hd3, hg3⟩
  have HD3 := Lib.hid hd3
  have HG3 : Hid (Gr w w3) := Lib.hid (HG2.out.trans hg3)
  clear hd3 hg3
  go_wp2_with fail
  refine (append_to HD3.out (Gr.refl _) (⟨#[97]⟩ : ByteArray) (by decide) (HA.out.gr HG3.out) (by have := HA2.out; omega) (fun g hg hne => .inl (HvA.out g hg hne)) (mv_1 A HA2.out)).mono ?_
  rintro e w4 ⟨rfl, hd, hf⟩
  have HD4 := Lib.hid hd
  have HG4 : Hid (Gr w w4) := Lib.hid (hf.gr HG3.out HG2.out.size)
  clear hd hf
  go_wp2_with fail
  refine (sync_to HD4.out (Gr.refl _) (⟨#[97]⟩ : ByteArray) (by decide) (mv_2 A)).mono ?_
  rintro e w5 ⟨rfl, hd, hf⟩
  have HD5 := Lib.hid hd
  have HG5 : Hid (Gr w w5) := Lib.hid (hf.gr HG4.out HG2.out.size)
  clear hd hf
  go_wp2_with fail
  refine (append_to HD5.out (Gr.refl _) (⟨#[97]⟩ : ByteArray) (by decide) (HB.out.gr HG5.out) (by have := HB2.out; omega) (fun g hg hne => .inl (HvB.out g hg hne)) (mv_3 A B HA2.out HB2.out)).mono ?_
  rintro e w6 ⟨rfl, hd, hf⟩
  have HD6 := Lib.hid hd
  have HG6 : Hid (Gr w w6) := Lib.hid (hf.gr HG5.out HG2.out.size)
  clear hd hf
  have hcv := Lib.run_convert_bytes_const (P := Try.prog) w6 30 5 #[.int .u8 101, .int .u8 108, .int .u8 100, .int .u8 101, .int .u8 114] 5 5 Try.underlying30 Try.underlying5
  simp only [List.size_toArray, List.length_cons, List.length_nil] at hcv
  go_wp2_with fail
  refine (append_to HD6.out ((Gr.refl _).alloc _) (⟨#[98]⟩ : ByteArray) (by decide) (l := [101, 108, 100, 101, 114]) (Rd.lit (heap_newn rfl) rfl (by decide)) (by decide) (fun g hg _ => .inr (by cases hg; exact Nat.le_refl _)) (mv_4 A B HA2.out HB2.out)).mono ?_
  rintro e w7 ⟨rfl, hd, hf⟩
  have HD7 := Lib.hid hd
  have HG7 : Hid (Gr w w7) := Lib.hid (hf.gr (HG6.out.alloc _) HG2.out.size)
  clear hd hf
  go_wp2_with fail
  refine (rename_to HD7.out (Gr.refl _) (⟨#[97]⟩ : ByteArray) (⟨#[98]⟩ : ByteArray) (by decide) (by decide) (mv_5 A B)).mono ?_
  rintro e w8 ⟨rfl, hd, hf⟩
  have HD8 := Lib.hid hd
  have HG8 : Hid (Gr w w8) := Lib.hid (hf.gr HG7.out HG2.out.size)
  clear hd hf
  go_wp2_with fail
  refine (copyBytes_any (HA.out.gr HG8.out) (by have := HA2.out; omega)).mono ?_
  rintro e w9 ⟨v9, rfl, ho9, hg9⟩
  have HO9 := Lib.hid ho9
  have HG89 := Lib.hid hg9
  have HG9 : Hid (Gr w w9) := Lib.hid (HG8.out.trans hg9)
  clear ho9 hg9
  go_wp2_with (at_builtin; refine app_rd (N := w8.heap.size) HG89.out.size (by rfl) _ _ (by rfl) A B (by rfl) (by rfl) HO9.out (HB.out.gr HG9.out) (by have := HA2.out; have := HB2.out; omega) ?_; intro v10 w10 hown10 hgb10)
  have hg10 : Gr w8 w10 := HO9.out.grew HG89.out hgb10
  have HO10 := Lib.hid hown10
  have HG810 := Lib.hid hg10
  have HG10 : Hid (Gr w w10) := Lib.hid (HG8.out.trans hg10)
  clear hown10 hgb10 hg10
  have HD10 := Lib.hid (HD8.out.gr HG810.out)
  clear HG89
  go_wp2_with fail
  refine (read_to HD10.out (Gr.refl _) (⟨#[97]⟩ : ByteArray) (by decide) (mv_6 A B)).mono ?_
  rintro e w11 ⟨v11, rfl, _, hg⟩
  have HG1011 := Lib.hid hg
  have HG11 : Hid (Gr w w11) := Lib.hid (HG10.out.trans hg)
  have HD11 := Lib.hid (HD10.out.gr hg)
  clear hg
  go_wp2_with fail
  refine (has_to HD11.out (Gr.refl _) (⟨#[98]⟩ : ByteArray) (by decide) (HO10.out.rd.gr HG1011.out) (mv_7 A B)).mono ?_
  rintro e w12 ⟨rfl, hg⟩
  have HG1012 := Lib.hid (HG1011.out.trans hg)
  have HG12 : Hid (Gr w w12) := Lib.hid (HG11.out.trans hg)
  have HD12 := Lib.hid (HD11.out.gr hg)
  clear hg
  have HOb : Hid (∀ g, v10.ownBlock = some g → w8.heap.size ≤ g ∧ g < w10.heap.size) := Lib.hid (fun g hg => ⟨(World.ownsRow.lt HO10.out g hg).1, (World.ownsRow.lt HO10.out g hg).2⟩)
  have HDO := Lib.hid (HD8.out.off (HG810.out.trans HG1012.out) (fun k => v10.ownBlock = some k) (fun k hk => (HOb.out k hk).1))
  have HO12 := Lib.hid (HO10.out.gr HG1012.out)
  clear HD10 HD11 HD12
  go_wp2_with fail
  refine (rename_too HDO.out (Gr.refl _) (fun k hk => Nat.lt_of_lt_of_le (HOb.out k hk).2 HG1012.out.size) (⟨#[98]⟩ : ByteArray) (⟨#[98]⟩ : ByteArray) (by decide) (by decide) (mv_8 A B)).mono ?_
  rintro e w13 ⟨rfl, hd, hf⟩
  have HD13 := Lib.hid hd
  have HO13 := Lib.hid (HO12.out.frO hf (fun g hg => hg))
  have HG13 : Hid (Gr w w13) := Lib.hid (hf.gr HG12.out HG2.out.size)
  clear hd hf
  go_wp2_with fail
  refine (names_dk HD13.out.dk (Gr.refl _)).mono ?_
  rintro e w14 ⟨v14, rfl, hrow, hg⟩
  obtain ⟨q14, c14, rfl⟩ := ownsRow_form hrow
  have HD14 := Lib.hid (HD13.out.gr hg)
  have HO14 := Lib.hid (HO13.out.gr hg)
  have HG14 : Hid (Gr w w14) := Lib.hid (HG13.out.trans hg)
  have hls := fun ty => len_strs (w := w14) (q := q14) (n := (mv5 A B).names.length) (c := c14) (ty := ty)
  have hnl : (mv5 A B).names.length = 1 := rfl
  rw [hnl] at hls ⊢
  clear hrow hg hnl
  go_wp2_with fail
  have HKB : Hid (∀ x ∈ [k], -9223372036854775808 ≤ x ∧ x ≤ 9223372036854775807) := Lib.hid (fun x hx => by simp at hx; subst hx; exact HK.out)
  refine (crash_too HD14.out ((Gr.refl _).alloc _) (fun g hg => by have := (World.ownsRow.lt HO14.out g hg).2; simp; omega) (kl := [k]) (RdI.lit (heap_newn rfl) rfl (by simp [maxLen]) (by simp)) HKB.out (fun g hg _ => .inr (.inr (by cases hg; exact Nat.le_refl _))) rfl).mono ?_
  rintro e w15 ⟨rfl, hd, hf⟩
  have HD15 := Lib.hid hd
  have HO15 := Lib.hid ((HO14.out.gr ((Gr.refl _).alloc _)).frO hf (fun g hg => hg))
  have HG15 : Hid (Gr w w15) := Lib.hid (hf.gr (HG14.out.alloc _) HG2.out.size)
  clear hd hf
  go_wp2_with fail
  refine (boot_too HD15.out (Gr.refl _) (fun g hg => (World.ownsRow.lt HO15.out g hg).2) (mv_9 A B k)).mono ?_
  rintro e w16 ⟨rfl, hd, hf⟩
  have HD16 := Lib.hid hd
  have HO16 := Lib.hid (HO15.out.frO hf (fun g hg => hg))
  have HG16 : Hid (Gr w w16) := Lib.hid (hf.gr HG15.out HG2.out.size)
  clear hd hf
  obtain ⟨q10, n10, c10, rfl⟩ := HO16.out.rd.slice'
  obtain ⟨hn10, hnc10, hmc10⟩ := HO16.out.rd.nc
  have hbr := bring_bd k (n := (B.length : Int) + 1) (by omega)
  have HBr := Lib.hid (bring_any k ((B.length : Int) + 1) HK.out (by have := HB2.out; omega))
  have hlenA := fun W ty => len_u8 (w := W) (q := aq) (n := A.length) (c := ac) (ty := ty)
  have hlenB := fun W ty => len_u8 (w := W) (q := bq) (n := B.length) (c := bc) (ty := ty)
  have hA100 := HA2.out
  have hB100 := HB2.out
  obtain ⟨m, hm⟩ : ∃ m : Nat, bringI k ((B.length : Int) + 1) = m := ⟨_, (Int.toNat_of_nonneg hbr.1).symm⟩
  rw [hm] at hbr HBr
  have HM := Lib.hid hm
  rw [List.length_append] at hn10
  have hle : A.length + m ≤ c10 := by rw [List.length_append] at hnc10; omega
  clear hm
  go_wp2_with (go_at_call 11; refine (HBr.out _).mono ?_; rintro e w17 ⟨rfl, rfl⟩)
  go_wp2_with fail
  refine (has_to HD16.out.dk (Gr.refl _) (⟨#[98]⟩ : ByteArray) (by decide) (l := (A ++ B).take (A.length + m)) (HO16.out.rd.take (A.length + m) (by rw [List.length_append]; omega)) ((mv_10 _ _).trans (by rw [HM.out]; rfl))).mono ?_
  rintro e w18 ⟨rfl, hg⟩
  go_wp2
  go_ret
  exact ⟨rfl, HG16.out.trans hg⟩
end Go.Proofs.Ytadbcikabpbogaa
