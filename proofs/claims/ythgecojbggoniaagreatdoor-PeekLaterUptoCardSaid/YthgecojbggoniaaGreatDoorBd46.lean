/- What the rows stand on, part 46: RowP, PekJh, PekU. Printed by bundle.py out of my texts. -/
import Derived.Test.YthgecojbggoniaaGreatDoorBd02
import Derived.Test.YthgecojbggoniaaGreatDoorBd19
import Derived.Test.YthgecojbggoniaaGreatDoorBd35
import Derived.Test.YthgecojbggoniaaGreatDoorBd40
import Derived.Test.YthgecojbggoniaaGreatDoorBd45
import Derived.StillTailTactics
namespace Go.Proofs.YthgecojbggoniaaGreatDoor
open Go.RowKit
set_option linter.unusedVariables false
set_option linter.unusedSimpArgs false
section
variable {M : Nat} {w : World} {v : Value} {D : Dat}
theorem rep_itt {cs : List Value} (h : rep M w shItt cs D) : ∃ (x : Itt) (vl : Value), cs = [.int .i64 x.id, .int .i64 x.epoch, .int .i64 x.prio, .string x.anchor, .int .i64 x.sw, .int .i64 x.sl, .int .i64 x.bw, .int .i64 x.bl, vl] ∧ RdC w vl x.l ∧ x.l.length ≤ M := by
  have := arg_itt (v := .agg cs.toArray) ⟨cs, rfl, h⟩
  obtain ⟨x, vl, e, h1, h2⟩ := this
  refine ⟨x, vl, ?_, h1, h2⟩
  injection e with e
  have := congrArg Array.toList e
  simpa using this
def shTh : Sh0 := .st [.int, .str, .str, .bool, shStamp, shItt]
structure ThM (M : Nat) (x : Th) : Prop where
  key : x.key.size ≤ M
  val : x.val.size ≤ M
  it : x.it.l.length ≤ M
theorem rep_th (ds : List Value) (d : Dat) (h : rep M w shTh ds d) : ∃ x : Th, (∃ vl, ds = thC x vl ∧ RdC w vl x.it.l) ∧ ThM M x := by
  simp only [shTh, rep_st, reps_cons, reps_nil, rep_int, rep_str, rep_bool] at h
  obtain ⟨_, rfl, _, _, _, _, rfl, rfl, ⟨a, rfl, rfl, _⟩, _, _, _, _, rfl, rfl, ⟨b, rfl, rfl, hb⟩, _, _, _, _, rfl, rfl, ⟨c, rfl, rfl, hc⟩, _, _, _, _, rfl, rfl, ⟨g, rfl, rfl⟩, _, _, _, _, rfl, rfl, h1, _, _, _, _, rfl, rfl, h2, rfl, rfl⟩ := h
  obtain ⟨sw, sl, rfl, _, _⟩ := rep_stamp h1
  obtain ⟨x, vl, rfl, h3, h4⟩ := rep_itt h2
  exact ⟨⟨a, b, c, g, sw, sl, x⟩, ⟨vl, rfl, h3⟩, ⟨hb, hc, h4⟩⟩
theorem arg_ths (h : repV M w (.sl shTh) v D) : ∃ l : List Th, RdT w v l ∧ l.length ≤ M ∧ ∀ x ∈ l, ThM M x :=
  RdR.of_rep (R := fun w ds x => ∃ vl, ds = thC x vl ∧ RdC w vl x.it.l) (Q := ThM M) rep_th h
def shTxn : Sh0 := .st [.int, .int, .int, .str, shStamp, shStamp, shStamp, shStamp]
theorem rep_txn {cs : List Value} (h : rep M w shTxn cs D) : ∃ x : Tx, cs = (txC x).toList ∧ x.an.size ≤ M := by
  simp only [shTxn, rep_st, reps_cons, reps_nil, rep_int, rep_str] at h
  obtain ⟨_, rfl, _, _, _, _, rfl, rfl, ⟨a, rfl, rfl, _⟩, _, _, _, _, rfl, rfl, ⟨b, rfl, rfl, _⟩, _, _, _, _, rfl, rfl, ⟨c, rfl, rfl, _⟩, _, _, _, _, rfl, rfl, ⟨s, rfl, rfl, hs⟩, _, _, _, _, rfl, rfl, h1, _, _, _, _, rfl, rfl, h2, _, _, _, _, rfl, rfl, h3, _, _, _, _, rfl, rfl, h4, rfl, rfl⟩ := h
  obtain ⟨e1, e2, rfl, _, _⟩ := rep_stamp h1
  obtain ⟨e3, e4, rfl, _, _⟩ := rep_stamp h2
  obtain ⟨e5, e6, rfl, _, _⟩ := rep_stamp h3
  obtain ⟨e7, e8, rfl, _, _⟩ := rep_stamp h4
  exact ⟨⟨a, b, c, s, e1, e2, e3, e4, e5, e6, e7, e8⟩, rfl, hs⟩
def shAsk : Sh0 := .st [.str, .st [.str, .str], shTxn, shStamp]
theorem arg_ask (h : repV M w shAsk v D) : ∃ (key fr hi : ByteArray) (x : Tx) (a b : Int), v = .agg #[.string key, .string fr, .string hi, .int .i64 x.id, .int .i64 x.ep, .int .i64 x.pr, .string x.an, .int .i64 x.rw, .int .i64 x.rl, .int .i64 x.ww, .int .i64 x.wl, .int .i64 x.lw, .int .i64 x.ll, .int .i64 x.bw, .int .i64 x.bl, .int .i64 a, .int .i64 b] ∧ key.size ≤ M := by
  obtain ⟨cs, rfl, hr⟩ := h
  simp only [shAsk, rep_st, reps_cons, reps_nil, rep_str] at hr
  obtain ⟨_, rfl, _, _, _, _, rfl, rfl, ⟨a, rfl, rfl, ha⟩, _, _, _, _, rfl, rfl, ⟨_, rfl, _, _, _, _, rfl, rfl, ⟨b, rfl, rfl, _⟩, _, _, _, _, rfl, rfl, ⟨c, rfl, rfl, _⟩, rfl, rfl⟩, _, _, _, _, rfl, rfl, h1, _, _, _, _, rfl, rfl, h2, rfl, rfl⟩ := hr
  obtain ⟨x, rfl, _⟩ := rep_txn h1
  obtain ⟨e1, e2, rfl, _, _⟩ := rep_stamp h2
  exact ⟨a, b, c, x, e1, e2, rfl, ha⟩
theorem ths_lens {l : List Th} {M : Nat} (hM : M ≤ 4398046511000) (h : ∀ x ∈ l, ThM M x) : (∀ x ∈ l, x.it.l.length ≤ 140737488355328) ∧ ∀ x ∈ l, x.key.size ≤ 4398046511000 ∧ x.val.size ≤ 4398046511000 :=
  ⟨fun x hx => by have := (h x hx).it; omega, fun x hx => ⟨Nat.le_trans (h x hx).key hM, Nat.le_trans (h x hx).val hM⟩⟩
end
end Go.Proofs.YthgecojbggoniaaGreatDoor
namespace Go.Proofs.YthgecojbggoniaaGreatDoor
open Go.RowKit
set_option maxRecDepth 100000
set_option linter.unusedVariables false
set_option linter.unusedSimpArgs false
set_option linter.unnecessarySimpa false

theorem RdVer.form {w : World} {N : Nat} {v : Value} {l : List Rw} (h : OwnG 49 4 verC w N v l) : ∃ q c, v = .slice q l.length c := h.slice
theorem ver_at {w : World} {q : Option Addr} {n c : Nat} {l : List Rw} {N : Nat} (h : OwnG 49 4 verC w N (.slice q n c) l) {k : Nat} (hk : k < l.length) : ∃ blk off, q = some ⟨blk, off, none⟩ ∧ l.length ≤ c ∧ c ≤ 9223372036854775807 ∧
    w.cell? ⟨blk, off + k * 4, none⟩ = some (.int .i64 (sa l[k])) ∧ w.cell? ⟨blk, off + k * 4 + 1, none⟩ = some (.int .i64 (sb l[k])) ∧ w.cell? ⟨blk, off + k * 4 + 2, none⟩ = some (.string (valR l[k]).1) ∧ w.cell? ⟨blk, off + k * 4 + 3, none⟩ = some (.bool (isV l[k])) := by
  have h2 := h.rd encVer (by decide)
  rcases h2 with ⟨h3, _⟩ | ⟨blk, off, cap, e, h1, h2, h3, h4, h5⟩
  · rw [h3] at hk; simp at hk
  · cases e
    obtain ⟨ds, d1, d2, d3⟩ := h5 k hk
    unfold RE at d3
    subst d3
    have hc : ∀ j (hj : j < 4), w.cell? ⟨blk, off + k * 4 + j, none⟩ = some ((verC l[k])[j]'(by simpa [verC] using hj)) := fun j hj => by rw [Nat.add_assoc]; exact d2 j (by simpa [verC] using hj)
    exact ⟨blk, off, rfl, h2, by unfold maxLen at h3; exact h3, hc 0 (by decide), hc 1 (by decide), hc 2 (by decide), hc 3 (by decide)⟩
theorem len_vers {w : World} {q : Option Addr} {n c : Nat} {ty : TypeId} : (Builtin.len_ #[46] ty #[.slice q n c]).run Tryz.prog w = .ok (.int .i64 n) w := by
  cases q <;> simp [Builtin.len_, run_underlying Tryz.underlying46, go_sem]
theorem find_up {V : List Rw} {a b : Int} {k : Nat} (hk : k < V.length) (hp : (V.take k).all (fun x => !upB a b x) = true) (h : upB a b V[k] = true) : V.find? (upB a b) = some V[k] := by
  refine (congrArg (List.find? (upB a b)) (List.take_append_drop k V)).symm.trans ?_
  have hd := List.drop_eq_getElem_cons hk
  generalize V[k] = y at *
  rw [List.find?_append, hd]
  have : (V.take k).find? (upB a b) = none := by
    rw [List.find?_eq_none]
    intro x hx
    have := List.all_eq_true.1 hp x hx
    simpa using this
  rw [this]
  simp [h]
theorem find_no {V : List Rw} {a b : Int} (hp : V.all (fun x => !upB a b x) = true) : V.find? (upB a b) = none := by
  rw [List.find?_eq_none]
  intro x hx
  have := List.all_eq_true.1 hp x hx
  simpa using this
/-- what stands while a key is read: the box of the transaction, the box of the answer, the box of the top -/
structure RdS (w : World) (x : Tx) (tp : Nat) (W : World) : Prop where
  g : Gr w W
  tx : W.heap[w.heap.size]? = some (.cells (txC x) 28)
  f : W.heap[w.heap.size + 1]? = some (.cells (fndA fnd0 (.slice none 0 0)) 51)
  top : W.heap[tp]? = some (.cells #[.int .i64 (topS x).1, .int .i64 (topS x).2] 26)
theorem RdS.gr {w W W' : World} {x : Tx} {tp : Nat} (h : RdS w x tp W) (hg : Gr W W') : RdS w x tp W' := ⟨h.g.trans hg, hg.blk h.tx, hg.blk h.f, hg.blk h.top⟩
theorem optI_some {b : Bool} {it y : Itt} (h : some y = optI b it) : b = true ∧ it = y := by
  cases b with
  | false => cases h
  | true => exact ⟨rfl, by unfold optI at h; simp at h; exact h.symm⟩
end Go.Proofs.YthgecojbggoniaaGreatDoor
namespace Go.Proofs.YthgecojbggoniaaGreatDoor
open Go.RowKit
set_option maxRecDepth 100000
set_option linter.unusedVariables false
set_option linter.unusedSimpArgs false
set_option linter.unnecessarySimpa false

def laterX (x : Tx) (s1 s2 : Int) : Tx := { x with rw := s1, rl := s2 }
def betwB (R : List Rw) (key : ByteArray) (x : Tx) (s1 s2 : Int) : Bool := (versR R key).any (fun v => !lessS (sa v) (sb v) x.rw x.rl && lessS (sa v) (sb v) s1 s2)
theorem lessP {a b c d : Int} : lessS a b c d = true ↔ (a < c ∨ a = c ∧ b < d) := by rw [lessS_iff]; simp
theorem lessN {a b c d : Int} : lessS a b c d = false ↔ ¬ (a < c ∨ a = c ∧ b < d) := by rw [lessS_iff]; simp
theorem top_ge {x : Tx} {a b : Int} (h : lessS (topS x).1 (topS x).2 a b = true) : lessS x.rw x.rl a b = true := by
  unfold topS at h
  split at h
  · rename_i h1
    rw [lessP] at *
    simp only at h
    omega
  · exact h
/-- the version that counts, if it lies below the stamp of reading: the first one below it, if none lies from it on up to the top -/
theorem doc_below {V : List Rw} {x : Tx} (hno : ∀ v, V.find? (upB (topS x).1 (topS x).2) = some v → lessS (sa v) (sb v) x.rw x.rl = true) (hfall : V.Pairwise (fun u v => lessS (sa v) (sb v) (sa u) (sb u) = true)) :
    V.find? (upB (topS x).1 (topS x).2) = V.find? (fun v => lessS (sa v) (sb v) x.rw x.rl) := by
  induction V with
  | nil => rfl
  | cons v r ih =>
    rw [List.find?_cons, List.find?_cons]
    cases hu : upB (topS x).1 (topS x).2 v with
    | true =>
      have := hno v (by rw [List.find?_cons, hu])
      rw [this]
    | false =>
      have h1 : lessS (topS x).1 (topS x).2 (sa v) (sb v) = true := by unfold upB at hu; simpa using hu
      have h2 := top_ge h1
      have h3 : lessS (sa v) (sb v) x.rw x.rl = false := by rw [lessN]; rw [lessP] at h2; omega
      rw [h3]
      exact ih (fun u hu2 => hno u (by rw [List.find?_cons, hu]; exact hu2)) (List.pairwise_cons.1 hfall).2
/-- a key's versions stand in falling order -/
theorem vers_fall {R : List Rw} (hR : RisingR R) (key : ByteArray) : (versR R key).Pairwise (fun u v => lessS (sa v) (sb v) (sa u) (sb u) = true) := by
  have h := rising_filter hR (vofK key)
  refine List.Pairwise.imp_of_mem ?_ h
  intro u v hu hv huv
  have h1 := (List.mem_filter.1 hu).2
  have h2 := (List.mem_filter.1 hv).2
  unfold vofK at h1 h2
  simp only [Bool.and_eq_true, beq_iff_eq] at h1 h2
  rcases ver_klt (vOk_rdk h1.1) (vOk_rdk h2.1) huv with ⟨h3, _⟩ | ⟨_, h4⟩
  · exact absurd (h1.2.trans h2.2.symm) h3
  · rw [lessP]
    omega
theorem rest_zero {R : List Rw} {key : ByteArray} {x : Tx} (h : (restD R key x).2 = 0) : (∀ v, docRow R key (topS x).1 (topS x).2 = some v → lessS (sa v) (sb v) x.rw x.rl = true) ∧
    restD R key x = (match docRow R key (topS x).1 (topS x).2 with | none => (⟨key, ⟨#[]⟩, false, false, 0, 0, itt0⟩, 0) | some v => (verOne key v, 0)) := by
  unfold restD at h ⊢
  cases hd : docRow R key (topS x).1 (topS x).2 with
  | none => exact ⟨fun v hv => (by cases hv), rfl⟩
  | some v =>
    rw [hd] at h
    simp only at h ⊢
    cases hl : lessS (sa v) (sb v) x.rw x.rl with
    | true => exact ⟨fun u hu => (by cases hu; exact hl), (by simp)⟩
    | false => rw [hl] at h; simp at h
theorem rest_later {R : List Rw} (hR : RisingR R) {key : ByteArray} {x : Tx} {s1 s2 : Int} (hge : lessS s1 s2 x.rw x.rl = false) (hb : betwB R key x s1 s2 = false)
    (h1 : (restD R key x).2 = 0) (h2 : (restD R key (laterX x s1 s2)).2 = 0) : restD R key x = restD R key (laterX x s1 s2) := by
  obtain ⟨a1, a2⟩ := rest_zero h1
  obtain ⟨b1, b2⟩ := rest_zero h2
  rw [a2, b2]
  have hf := vers_fall hR key
  have e1 : docRow R key (topS x).1 (topS x).2 = (versR R key).find? (fun v => lessS (sa v) (sb v) x.rw x.rl) := doc_below a1 hf
  have e2 : docRow R key (topS (laterX x s1 s2)).1 (topS (laterX x s1 s2)).2 = (versR R key).find? (fun v => lessS (sa v) (sb v) s1 s2) := doc_below (x := laterX x s1 s2) b1 hf
  rw [e1, e2]
  have e3 : (versR R key).find? (fun v => lessS (sa v) (sb v) x.rw x.rl) = (versR R key).find? (fun v => lessS (sa v) (sb v) s1 s2) := by
    refine find_congr (fun v hv => ?_)
    have := List.any_eq_false.1 hb v hv
    simp only [Bool.and_eq_true, Bool.not_eq_true', not_and, Bool.not_eq_true] at this
    cases hl : lessS (sa v) (sb v) x.rw x.rl with
    | true =>
      symm
      rw [lessP] at hl ⊢
      rw [lessN] at hge
      omega
    | false => exact (this hl).symm
  rw [e3]
theorem later_same {R : List Rw} (hR : RisingR R) {key : ByteArray} {x : Tx} {a b s1 s2 : Int} (hge : lessS s1 s2 x.rw x.rl = false) (h1 : (getF R key x a b).2 = 0) (h2 : (getF R key (laterX x s1 s2) a b).2 = 0)
    (hb : betwB R key x s1 s2 = false ∨ (getF R key x a b).1.own = true) : (getF R key x a b).1 = (getF R key (laterX x s1 s2) a b).1 := by
  rw [get_doc hR] at *
  rw [get_doc hR] at *
  have aux : ∀ {x : Tx}, (getD R key x a b).2 = 0 → getD R key x a b = foundD R key x := by
    intro x h
    unfold getD at h ⊢
    split
    · rename_i h3; rw [if_pos h3] at h; cases h
    · rename_i h3
      rw [if_neg h3] at h
      split
      · rename_i h4; rw [if_pos h4] at h; cases h
      · rfl
  have e1 := aux h1
  have e2 := aux h2
  rw [e1] at h1 hb ⊢
  rw [e2] at h2 ⊢
  clear e1 e2
  have hrest : ∀ {x : Tx}, (restD R key x).1.own = false := by
    intro x
    unfold restD
    cases docRow R key (topS x).1 (topS x).2 with
    | none => rfl
    | some v => simp only; split <;> rfl
  unfold foundD at h1 h2 hb ⊢
  cases hi : intentR R key with
  | none =>
    rw [hi] at h1 h2 hb
    simp only at h1 h2 hb ⊢
    rw [hrest] at hb
    rcases hb with hb | hb
    · rw [rest_later hR hge hb h1 h2]
    · cases hb
  | some y =>
    rw [hi] at h1 h2 hb
    simp only at h1 h2 hb ⊢
    have hx1 : (laterX x s1 s2).id = x.id := rfl
    have hx2 : (laterX x s1 s2).ep = x.ep := rfl
    rw [hx1, hx2] at h2 ⊢
    by_cases hid : y.id = x.id
    · rw [if_pos hid] at h1 h2 hb ⊢
      rw [if_pos hid]
      by_cases he : x.ep < y.epoch
      · rw [if_pos he] at h1; cases h1
      · rw [if_neg he] at h1 h2 hb ⊢
        rw [if_neg he]
        by_cases he2 : y.epoch = x.ep
        · rw [if_pos he2, if_pos he2]
        · rw [if_neg he2] at h1 h2 hb ⊢
          rw [if_neg he2]
          rw [hrest] at hb
          rcases hb with hb | hb
          · rw [rest_later hR hge hb h1 h2]
          · cases hb
    · rw [if_neg hid] at h1 h2 hb ⊢
      rw [if_neg hid]
      split at h1
      · cases h1
      · rename_i hw1
        rw [if_neg hw1] at hb ⊢
        split at h2
        · cases h2
        · rename_i hw2
          rw [if_neg hw2]
          rw [hrest] at hb
          rcases hb with hb | hb
          · rw [rest_later hR hge hb h1 h2]
          · cases hb
end Go.Proofs.YthgecojbggoniaaGreatDoor
