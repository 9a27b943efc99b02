/- What the rows stand on, part 46: RowP, PekU, PekW. Printed by bundle.py out of my texts. -/
import Derived.Test.YthgecojbggoniaaGreatDoorBe21
import Derived.Test.YthgecojbggoniaaGreatDoorBe35
import Derived.Test.YthgecojbggoniaaGreatDoorBe41
import Derived.Test.YthgecojbggoniaaGreatDoorBe44
import Derived.Test.YthgecojbggoniaaGreatDoorBe45
namespace Go.Proofs.YthgecojbggoniaaGreatDoor
open Go.RowKit
set_option linter.unusedVariables false
set_option linter.unusedSimpArgs false
section
variable {M : Nat} {w : World} {v : Value} {D : Dat}
theorem rep_itt {cs : List Value} (h : rep M w shItt cs D) : ∃ (x : Itt) (vl : Value), cs = [.int .i64 x.id, .int .i64 x.epoch, .int .i64 x.prio, .string x.anchor, .int .i64 x.sw, .int .i64 x.sl, .int .i64 x.bw, .int .i64 x.bl, vl] ∧ RdC w vl x.l ∧ x.l.length ≤ M := by
  have := arg_itt (v := .agg cs.toArray) ⟨cs, rfl, h⟩
  obtain ⟨x, vl, e, h1, h2⟩ := this
  refine ⟨x, vl, ?_, h1, h2⟩
  injection e with e
  have := congrArg Array.toList e
  simpa using this
def shTh : Sh0 := .st [.int, .str, .str, .bool, shStamp, shItt]
structure ThM (M : Nat) (x : Th) : Prop where
  key : x.key.size ≤ M
  val : x.val.size ≤ M
  it : x.it.l.length ≤ M
theorem rep_th (ds : List Value) (d : Dat) (h : rep M w shTh ds d) : ∃ x : Th, (∃ vl, ds = thC x vl ∧ RdC w vl x.it.l) ∧ ThM M x := by
  simp only [shTh, rep_st, reps_cons, reps_nil, rep_int, rep_str, rep_bool] at h
  obtain ⟨_, rfl, _, _, _, _, rfl, rfl, ⟨a, rfl, rfl, _⟩, _, _, _, _, rfl, rfl, ⟨b, rfl, rfl, hb⟩, _, _, _, _, rfl, rfl, ⟨c, rfl, rfl, hc⟩, _, _, _, _, rfl, rfl, ⟨g, rfl, rfl⟩, _, _, _, _, rfl, rfl, h1, _, _, _, _, rfl, rfl, h2, rfl, rfl⟩ := h
  obtain ⟨sw, sl, rfl, _, _⟩ := rep_stamp h1
  obtain ⟨x, vl, rfl, h3, h4⟩ := rep_itt h2
  exact ⟨⟨a, b, c, g, sw, sl, x⟩, ⟨vl, rfl, h3⟩, ⟨hb, hc, h4⟩⟩
theorem arg_ths (h : repV M w (.sl shTh) v D) : ∃ l : List Th, RdT w v l ∧ l.length ≤ M ∧ ∀ x ∈ l, ThM M x :=
  RdR.of_rep (R := fun w ds x => ∃ vl, ds = thC x vl ∧ RdC w vl x.it.l) (Q := ThM M) rep_th h
def shTxn : Sh0 := .st [.int, .int, .int, .str, shStamp, shStamp, shStamp, shStamp]
theorem rep_txn {cs : List Value} (h : rep M w shTxn cs D) : ∃ x : Tx, cs = (txC x).toList ∧ x.an.size ≤ M := by
  simp only [shTxn, rep_st, reps_cons, reps_nil, rep_int, rep_str] at h
  obtain ⟨_, rfl, _, _, _, _, rfl, rfl, ⟨a, rfl, rfl, _⟩, _, _, _, _, rfl, rfl, ⟨b, rfl, rfl, _⟩, _, _, _, _, rfl, rfl, ⟨c, rfl, rfl, _⟩, _, _, _, _, rfl, rfl, ⟨s, rfl, rfl, hs⟩, _, _, _, _, rfl, rfl, h1, _, _, _, _, rfl, rfl, h2, _, _, _, _, rfl, rfl, h3, _, _, _, _, rfl, rfl, h4, rfl, rfl⟩ := h
  obtain ⟨e1, e2, rfl, _, _⟩ := rep_stamp h1
  obtain ⟨e3, e4, rfl, _, _⟩ := rep_stamp h2
  obtain ⟨e5, e6, rfl, _, _⟩ := rep_stamp h3
  obtain ⟨e7, e8, rfl, _, _⟩ := rep_stamp h4
  exact ⟨⟨a, b, c, s, e1, e2, e3, e4, e5, e6, e7, e8⟩, rfl, hs⟩
theorem arg_txn (h : repV M w shTxn v D) : ∃ x : Tx, v = .agg (txC x) ∧ x.an.size ≤ M := by
  obtain ⟨cs, rfl, hr⟩ := h
  obtain ⟨x, rfl, hx⟩ := rep_txn hr
  exact ⟨x, by simp, hx⟩
def shChange : Sh0 := .st [.int, .str, .bool]
theorem arg_chg (h : repV M w shChange v D) : ∃ c : Chg, v = .agg #[.int .i64 c.seq, .string c.value, .bool c.del] ∧ c.value.size ≤ M ∧ (-9223372036854775808 ≤ c.seq ∧ c.seq ≤ 9223372036854775807) := by
  obtain ⟨cs, rfl, hr⟩ := h
  simp only [shChange, rep_st, reps_cons, reps_nil, rep_int, rep_str, rep_bool] at hr
  obtain ⟨_, rfl, _, _, _, _, rfl, rfl, ⟨a, rfl, rfl, ha⟩, _, _, _, _, rfl, rfl, ⟨b, rfl, rfl, hb⟩, _, _, _, _, rfl, rfl, ⟨c, rfl, rfl⟩, rfl, rfl⟩ := hr
  exact ⟨⟨a, b, c⟩, rfl, hb, ha⟩
theorem ths_lens {l : List Th} {M : Nat} (hM : M ≤ 4398046511000) (h : ∀ x ∈ l, ThM M x) : (∀ x ∈ l, x.it.l.length ≤ 140737488355328) ∧ ∀ x ∈ l, x.key.size ≤ 4398046511000 ∧ x.val.size ≤ 4398046511000 :=
  ⟨fun x hx => by have := (h x hx).it; omega, fun x hx => ⟨Nat.le_trans (h x hx).key hM, Nat.le_trans (h x hx).val hM⟩⟩
end
end Go.Proofs.YthgecojbggoniaaGreatDoor
namespace Go.Proofs.YthgecojbggoniaaGreatDoor
open Go.RowKit
set_option maxRecDepth 100000
set_option linter.unusedVariables false
set_option linter.unusedSimpArgs false
set_option linter.unnecessarySimpa false

theorem lessP {a b c d : Int} : lessS a b c d = true ↔ (a < c ∨ a = c ∧ b < d) := by rw [lessS_iff]; simp
end Go.Proofs.YthgecojbggoniaaGreatDoor
namespace Go.Proofs.YthgecojbggoniaaGreatDoor
open Go.RowKit
set_option maxRecDepth 100000
set_option linter.unusedVariables false
set_option linter.unusedSimpArgs false
set_option linter.unnecessarySimpa false

theorem get_put (k v : ByteArray) (R : List Rw) : getR k (putR k v R) = some v := by
  have ha : aboveR k (putR k v R) = (k, v) :: restR k (aboveR k R) := by
    unfold putR aboveR
    rw [List.dropWhile_append_of_pos]
    · rw [List.dropWhile_cons_of_neg (by rw [klt_irrefl]; decide)]
    · intro y hy
      exact List.all_eq_true.1 (List.all_takeWhile (p := fun x : Rw => klt x.1 k) (l := R)) y hy
  unfold getR
  rw [ha]
  simp
def mineI (x : Tx) (s : Int) (v : ByteArray) (d : Bool) : Itt := ⟨x.id, x.ep, 1, keyA, 5, 0, 0, 0, [⟨s, v, d⟩]⟩
theorem mine_ok {x : Tx} (hm : mayT x = true) {s : Int} (hs : 1 ≤ s ∧ s ≤ 100) {v : ByteArray} (hv : v.size ≤ 64) {d : Bool} (hd : d = true → v.size = 0) : ittOk (mineI x s v d) = true := by
  unfold mayT idsB at hm
  simp only [Bool.and_eq_true, decide_eq_true_eq] at hm
  obtain ⟨⟨h1, h2, h3, h4⟩, _⟩ := hm
  unfold ittOk headB plainB idB mineI
  have e1 : (checkE keyA.size == 0) = true := by decide
  have e2 : chgsOk 0 [⟨s, v, d⟩] = true := by
    unfold chgsOk chgsOk chgOk
    cases d with
    | false => simp; omega
    | true => simp [hd rfl]; omega
  have e3 : ([((5 : Int), (0 : Int)), (0, 0)].all fun p => mayB p.1 p.2) = true := by decide
  simp only [e1, e2, e3, h1, h2, h3, h4]
  simp
theorem own_read {R : List Rw} {x : Tx} (hm : mayT x = true) {s : Int} (hs : 1 ≤ s ∧ s ≤ 100) {v : ByteArray} (hv : v.size ≤ 64) {d : Bool} (hd : d = true → v.size = 0) (hr : ¬ (x.rw = 0 ∧ x.rl = 0)) :
    getF (putT (tI (mineI x s v d)) R) keyA x 0 0 = (⟨keyA, v, !d, true, 5, 0, itt0⟩, 0) := by
  have hok := mine_ok hm hs hv hd
  have hop : thOp (tI (mineI x s v d)) = some ⟨ofL (105 :: keyL [97]), ofL (ittW (mineI x s v d)), false⟩ := by
    unfold thOp tI
    have h0 : bringI 1 3 = 1 := by decide
    simp only [h0]
    rw [if_neg (by decide), if_pos trivial]
    have hk : intentKeyR keyA.data.toList = (105 :: keyL [97], 0) := rfl
    rw [hk]
    have he : okE (ittOk (mineI x s v d)) = 0 := by rw [hok]; rfl
    rw [if_pos ⟨rfl, he⟩]
    unfold ittT
    rw [if_pos hok]
  have hR : putT (tI (mineI x s v d)) R = putR (ofL (105 :: keyL [97])) (ofL (ittW (mineI x s v d))) R := by
    unfold putT
    rw [hop]
    simp only
    unfold afterR
    have ha : applyE [(⟨ofL (105 :: keyL [97]), ofL (ittW (mineI x s v d)), false⟩ : Opp)] = 0 := by
      have hne : (ofL (105 :: keyL [97])).toList.isEmpty = false := by rw [ByteArray.toList_eq, data_ofL]; rfl
      unfold applyE badO
      rw [if_neg (by simp), if_neg (by simp [hne])]
    rw [if_pos ha]
    rfl
  rw [hR]
  have hi : intentR (putR (ofL (105 :: keyL [97])) (ofL (ittW (mineI x s v d))) R) keyA = some (mineI x s v d) := by
    unfold intentR
    have hk : ofL (intentKeyR keyA.data.toList).1 = ofL (105 :: keyL [97]) := rfl
    rw [hk, get_put]
    simp only [Option.bind_some]
    rw [data_ofL]
    exact takeItt_fwd hok
  have hb : beginsE (keyOk keyA) x 0 0 = 0 := by
    unfold beginsE
    have hk : keyOk keyA = true := by decide
    have hl : lessS 0 0 x.rw x.rl = true := by
      unfold mayT at hm
      simp only [Bool.and_eq_true] at hm
      have := may_iff.1 hm.2.1
      rw [lessP]
      omega
    rw [hk, hm, may_zero, hl]
    rfl
  unfold getF
  rw [hb]
  simp only [ne_eq, not_true_eq_false, ↓reduceIte]
  unfold foundF
  rw [hi]
  simp only
  rw [if_pos (show (mineI x s v d).id = x.id from rfl), if_neg (by show ¬ x.ep < x.ep; omega), if_pos (show (mineI x s v d).epoch = x.ep from rfl)]
  rfl
theorem putT_sz {x : Th} {R : List Rw} (hR : ∀ y ∈ R, SzP y) (hk : x.key.size ≤ 4398046511000) (hv : x.val.size ≤ 4398046511000) : ∀ y ∈ putT x R, SzP y := by
  intro y hy
  unfold putT at hy
  cases ho : thOp x with
  | none => rw [ho] at hy; exact hR y hy
  | some o =>
    rw [ho] at hy
    rcases mem_after hy with h | h
    · exact hR y h
    · rw [h]; exact thOp_sz hk hv ho
end Go.Proofs.YthgecojbggoniaaGreatDoor
