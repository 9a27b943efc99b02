/- What the rows stand on, part 44: PekX, PekQ. Printed by bundle.py out of my texts. -/
import Derived.Test.YthgecojbggoniaaGreatDoorBe23
import Derived.Test.YthgecojbggoniaaGreatDoorBe37
import Derived.Test.YthgecojbggoniaaGreatDoorBe41
import Derived.Test.YthgecojbggoniaaGreatDoorBe42
import Derived.Test.YthgecojbggoniaaGreatDoorBe43
import Derived.Laws.Rows
namespace Go.Proofs.YthgecojbggoniaaGreatDoor
open Go.RowKit
set_option maxRecDepth 100000
set_option linter.unusedVariables false
set_option linter.unusedSimpArgs false
set_option linter.unnecessarySimpa false

/-- one change of one table -/
theorem one_a {ta N : Nat} {R : List Rw} {w w0 : World} (h : TabAt ta (fun k => N ≤ k) R w) (hw0 : w0.heap.size = N) (hgr : Gr w0 w) (hR : R.length ≤ 1000000) {v : Value} {o : Opp} (hv : OneAt v o w) :
    Calls Tryz.prog 28 #[.pointer (some ⟨ta, 0, none⟩), v] w fun e w' => e = .returned (.int .i64 (applyE [o])) ∧ TabAt ta (fun k => N ≤ k) (afterR [o] R) w' ∧ Gr w0 w' ∧ FrU (fun k => N ≤ k) w w' := by
  obtain ⟨g, cur, hg1, hg2⟩ := hv.bl
  have hnt : ¬ isTab (.cells cur 67) := by
    rintro (⟨cs', fz', h1 | h1⟩ | ⟨cs', fz', h1⟩) <;> injection h1 with _ h2 _ <;> exact absurd h2 (by decide)
  refine (apply_tab h hv.rd (by simp) (by omega) (fun g' hg' _ _ => ?_)).mono ?_
  · rw [hg1] at hg'
    cases hg'
    exact ⟨_, _, _, hg2, hnt⟩
  rintro e w' ⟨rfl, h1, h2⟩
  have hsz := hgr.size
  have hm : ∀ k, UpS (fun k => N ≤ k) w k → N ≤ k := fun k hk => by
    rcases hk with hk | hk
    · exact hk
    · exact Nat.le_trans (by omega) hk
  exact ⟨rfl, h1.mono hm, FrU.toGr hgr h2 (fun k hk => by rw [hw0]; exact hm k hk), h2.mono (fun k hk _ => hm k hk)⟩
def putT (x : Th) (R : List Rw) : List Rw := match thOp x with | some o => afterR [o] R | none => R
set_option maxHeartbeats 8000000 in
theorem put12 {ta : Nat} {S : Nat → Prop} {R : List Rw} {w : World} (h : TabAt ta S R w) (hsz : ∀ x ∈ R, SzP x) (hR : R.length ≤ 1000) (x : Th) {q : Option Addr} {n c : Nat} (hc : RdC w (.slice q n c) x.it.l) (hlen : x.it.l.length ≤ 140737488355328) :
    Calls Tryz.prog 23 #[.pointer (some ⟨ta, 0, none⟩), .agg (thC x (.slice q n c)).toArray] w fun e w' => ∃ tc, e = .returned (.pointer (some ⟨tc, 0, none⟩)) ∧ TabAt tc (fun k => w.heap.size ≤ k) (putT x R) w' ∧ Gr w w' := by
  have HI15 : Hid ((Tryz.prog.info? 64).map (·.size) = some 15) := Lib.hid (by kernel_rfl)
  have HX0 : Hid (Gr w (w.alloc (.cells (thC x (.slice q n c)).toArray 64))) := Lib.hid ((Gr.refl w).alloc _)
  have HB := Lib.hid (heap_alloc_new w (.cells (thC x (.slice q n c)).toArray 64))
  have HCp := Lib.hid (copy_tab (h.gr HX0.out) (fun x hx => ⟨by have := (hsz x hx).1; omega, by have := (hsz x hx).2; omega⟩) (Nat.le_trans hR (by decide)))
  have HOp := Lib.hid (fun (W : World) (hg : Gr w W) => thing_op x (RdC.gr hc hg) hlen)
  have HP : Hid (putT x R = match thOp x with | some o => afterR [o] R | none => R) := Lib.hid rfl
  have HRl := Lib.hid hR
  clear h hsz hc hR
  unfold thC at *
  go_enter Tryz.func23, Tryz.ntmps23
  go_wp2_with fail
  refine HCp.out.mono ?_
  rintro e w1 ⟨tc, rfl, ht, hg⟩
  have HG := Lib.hid (HX0.out.trans hg)
  replace HB := Lib.hid (hg.blk HB.out)
  have HT := Lib.hid (ht.mono (S' := fun k => w.heap.size ≤ k) (fun k hk => Nat.le_trans HX0.out.size hk))
  clear ht hg HCp HX0
  have hop := HOp.out _ HG.out
  have HOp2 := Lib.hid hop
  clear hop HOp
  go_wp2_with (first
    | (refine wpList_load_row (by rfl) _ _ (by rfl) _ (by rfl) _ _ _ _ HB.out Tryz.underlying64 rfl HI15.out ?_)
    | (go_at_call 21; fail))
  refine HOp2.out.mono ?_
  rintro e w2 ⟨k, v, b, rfl, ho, hg⟩
  have hgn := hg.alloc (.cells #[.string k, .string v, .bool false] 67)
  have HG2 := Lib.hid (HG.out.trans hgn)
  have HT2 := Lib.hid (HT.out.gr hgn)
  have hb := heap_alloc_new w2 (.cells #[.string k, .string v, .bool false] 67)
  obtain ⟨o_0, o_1, o_2, _⟩ := blk3 hb
  have HO := Lib.hid ho
  clear hg hgn hb ho HOp2 HB
  cases b with
  | false =>
    have hp : putT x R = R := by rw [HP.out, HO.out]; rfl
    go_wp2
    go_ret
    exact ⟨_, rfl, (by rw [hp]; exact HT2.out), HG2.out⟩
  | true =>
    have hp : putT x R = afterR [⟨k, v, false⟩] R := by rw [HP.out, HO.out]; rfl
    have HA := Lib.hid (one_a (w0 := w) (HT2.out.gr ((Gr.refl _).alloc (.cells #[.string k, .string v, .bool false] 67))) rfl (HG2.out.alloc _) (Nat.le_trans HRl.out (by decide)) (one_lit (g := w2.heap.size + 1) (heap_newn (by simp))))
    go_wp2_with fail
    refine HA.out.mono ?_
    rintro e w3 ⟨rfl, ht, hg, _⟩
    have HT3 := Lib.hid ht
    have HG3 := Lib.hid hg
    clear ht hg HA
    go_wp2
    go_ret
    exact ⟨_, rfl, (by rw [hp]; exact HT3.out), HG3.out⟩
end Go.Proofs.YthgecojbggoniaaGreatDoor
namespace Go.Proofs.YthgecojbggoniaaGreatDoor
open Go.RowKit
set_option maxRecDepth 100000
set_option linter.unusedVariables false
set_option linter.unusedSimpArgs false
set_option linter.unnecessarySimpa false

theorem rdc_slice {w : World} {v : Value} {l : List Chg} (h : RdC w v l) : ∃ q z c, v = .slice q z c := by
  obtain ⟨q, c, e⟩ := RdR.form h
  exact ⟨_, _, _, e⟩
theorem noChg_fnd (f : Fnd) (vl : Value) : noChg (fndA f vl) := by
  intro i z s q ⟨h1, h2, h3⟩
  unfold fndA at h1 h2 h3
  match i with
  | 0 | 1 | 2 | 3 | 4 | 5 | 6 | 7 | 8 | 9 | 10 | 11 | 12 | 13 | 14 => simp at h1 h2 h3
  | n + 15 => simp at h1
/-- a row that is a version of a key -/
def vofK (key : ByteArray) (x : Rw) : Bool := vOk x && (kl x == key.data.toList)
def versR (R : List Rw) (key : ByteArray) : List Rw := R.filter (vofK key)
def upB (a b : Int) (x : Rw) : Bool := !lessS a b (sa x) (sb x)
def docRow (R : List Rw) (key : ByteArray) (a b : Int) : Option Rw := (versR R key).find? (upB a b)
theorem data_ofL (l : List UInt8) : (ofL l).data.toList = l := by simp [ofL]
theorem lessS_iff (a b c d : Int) : lessS a b c d = decide (a < c ∨ a = c ∧ b < d) := by
  unfold lessS
  by_cases h1 : a < c <;> by_cases h2 : a = c <;> by_cases h3 : b < d <;> simp [h1, h2, h3]
theorem may_zero : mayB 0 0 = true := by decide
/-! what the document reads -/
def restD (R : List Rw) (key : ByteArray) (x : Tx) : Fnd × Int := match docRow R key (topS x).1 (topS x).2 with
  | none => (⟨key, ⟨#[]⟩, false, false, 0, 0, itt0⟩, 0)
  | some v => if (!lessS (sa v) (sb v) x.rw x.rl) = true then (⟨key, ⟨#[]⟩, false, false, sa v, sb v, itt0⟩, 121) else (verOne key v, 0)
def foundD (R : List Rw) (key : ByteArray) (x : Tx) : Fnd × Int := match intentR R key with
  | none => restD R key x
  | some y =>
    if y.id = x.id then
      if x.ep < y.epoch then (fnd0, 201)
      else if y.epoch = x.ep then (⟨key, (lastC y.l).value, !(lastC y.l).del, true, y.sw, y.sl, itt0⟩, 0)
      else restD R key x
    else if (!lessS (topS x).1 (topS x).2 y.sw y.sl) = true then (⟨key, ⟨#[]⟩, false, false, 0, 0, y⟩, 120)
    else restD R key x
def getD (R : List Rw) (key : ByteArray) (x : Tx) (a b : Int) : Fnd × Int :=
  if (!keyOk key || (!mayT x || !mayB a b)) = true then (fnd0, 2) else if (!lessS a b x.rw x.rl) = true then (fnd0, 122) else foundD R key x
end Go.Proofs.YthgecojbggoniaaGreatDoor
