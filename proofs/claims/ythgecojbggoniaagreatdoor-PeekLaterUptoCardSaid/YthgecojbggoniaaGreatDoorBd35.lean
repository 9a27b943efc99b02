/- What the rows stand on, part 35: RowZ, ThC, PekP. Printed by bundle.py out of my texts. -/
import Derived.Test.YthgecojbggoniaaGreatDoorBd02
import Derived.Test.YthgecojbggoniaaGreatDoorBd14
import Derived.Test.YthgecojbggoniaaGreatDoorBd15
import Derived.Test.YthgecojbggoniaaGreatDoorBd19
import Derived.Test.YthgecojbggoniaaGreatDoorBd29
import Derived.Test.YthgecojbggoniaaGreatDoorBd32
import Derived.Test.YthgecojbggoniaaGreatDoorBd33
import Derived.Test.YthgecojbggoniaaGreatDoorBd34
namespace Go.Proofs.YthgecojbggoniaaGreatDoor
open Go.RowKit
set_option linter.unusedVariables false
set_option linter.unusedSimpArgs false
section
variable {M : Nat} {w : World} {v : Value} {D : Dat}
theorem rep_sl_one {e : Sh0} {cs : List Value} {d : Dat} (h : rep M w (.sl e) cs d) : ∃ v, cs = [v] := by
  cases d <;> simp only [rep] at h
  rcases h with ⟨_, q, c, rfl, _⟩ | ⟨blk, off, cap, rfl, _⟩
  · exact ⟨_, rfl⟩
  · exact ⟨_, rfl⟩
def shChg : Sh0 := .st [.int, .str, .bool]
def shItt : Sh0 := .st [.int, .int, .int, .str, shStamp, shStamp, .sl shChg]
theorem rep_chg (ds : List Value) (d : Dat) (h : rep M w shChg ds d) : ∃ c : Chg, RC w ds c ∧ True := by
  simp only [shChg, rep_st, reps_cons, reps_nil, rep_int, rep_str, rep_bool] at h
  obtain ⟨_, rfl, _, _, _, _, rfl, rfl, ⟨a, rfl, rfl, _⟩, _, _, _, _, rfl, rfl, ⟨b, rfl, rfl, _⟩, _, _, _, _, rfl, rfl, ⟨c, rfl, rfl⟩, rfl, rfl⟩ := h
  exact ⟨⟨a, b, c⟩, rfl, trivial⟩
theorem arg_itt (h : repV M w shItt v D) : ∃ (x : Itt) (vl : Value), v = .agg #[.int .i64 x.id, .int .i64 x.epoch, .int .i64 x.prio, .string x.anchor, .int .i64 x.sw, .int .i64 x.sl, .int .i64 x.bw, .int .i64 x.bl, vl] ∧ RdC w vl x.l ∧ x.l.length ≤ M := by
  obtain ⟨cs, rfl, hr⟩ := h
  simp only [shItt, rep_st, reps_cons, reps_nil, rep_int, rep_str] at hr
  obtain ⟨_, rfl, _, _, _, _, rfl, rfl, ⟨a, rfl, rfl, _⟩, _, _, _, _, rfl, rfl, ⟨b, rfl, rfl, _⟩, _, _, _, _, rfl, rfl, ⟨c, rfl, rfl, _⟩, _, _, _, _, rfl, rfl, ⟨s, rfl, rfl, _⟩, _, _, _, _, rfl, rfl, h1, _, _, _, _, rfl, rfl, h2, u, _, _, _, rfl, rfl, h3, rfl, rfl⟩ := hr
  obtain ⟨sw, sl, rfl, _, _⟩ := rep_stamp h1
  obtain ⟨bw, bl, rfl, _, _⟩ := rep_stamp h2
  obtain ⟨vl, rfl⟩ := rep_sl_one h3
  obtain ⟨l, hl, hM, _⟩ := RdR.of_rep (R := RC) (Q := fun _ => True) rep_chg h3
  exact ⟨⟨a, b, c, s, sw, sl, bw, bl, l⟩, vl, rfl, hl, hM⟩
end
end Go.Proofs.YthgecojbggoniaaGreatDoor
namespace Go.Proofs.YthgecojbggoniaaGreatDoor
open Go.RowKit
set_option linter.unusedVariables false
set_option linter.unusedSimpArgs false
section
variable {M : Nat} {w : World} {v : Value} {D : Dat}
end
end Go.Proofs.YthgecojbggoniaaGreatDoor
namespace Go.Proofs.YthgecojbggoniaaGreatDoor
open Go.RowKit
set_option maxRecDepth 100000
set_option linter.unusedVariables false
set_option linter.unusedSimpArgs false
set_option linter.unnecessarySimpa false

set_option maxHeartbeats 8000000 in
theorem tables12 {w : World} {v : Value} {l : List Th} (hl : RdT w v l) (hlen : l.length ≤ 140737488355328) (hit : ∀ x ∈ l, x.it.l.length ≤ 140737488355328) :
    Calls Tryz.prog 7 #[v] w fun e w' => ∃ ta tb, e = .returned (.tuple #[.pointer (some ⟨ta, 0, none⟩), .pointer (some ⟨tb, 0, none⟩)]) ∧ TwoAt w.heap.size ta tb (tabR (opsT l)) w' ∧ Gr w w' := by
  have HL := Lib.hid hl
  have HI := Lib.hid hit
  clear hl hit
  go_enter Tryz.func7, Tryz.ntmps7
  go_wp2_with fail
  refine (new_tab 1 w).mono ?_
  rintro e w1 ⟨ta, rfl, h1, hg1⟩
  have hd : DocAt w1.heap.size w1.heap.size [] (w1.alloc (.cells #[.slice none 0 0] 61)) := ⟨⟨_, heap_alloc_new _ _, OwnG.nil _ _⟩, Nat.le_refl _⟩
  have HT0 := Lib.hid (two_new h1 hg1 hd ((Gr.refl _).alloc _))
  have HG0 : Hid (Gr w (w1.alloc (.cells #[.slice none 0 0] 61))) := Lib.hid (hg1.alloc _)
  clear h1 hg1 hd
  go_wp2_with fail
  refine (laid12 (HL.out.gr HG0.out) hlen HI.out).mono ?_
  rintro e w2 ⟨vo, rfl, ho, hg2⟩
  have hN : w.heap.size ≤ (w1.alloc (.cells #[.slice none 0 0] 61)).heap.size := HG0.out.size
  obtain ⟨q, c, e⟩ := ho.slice
  subst e
  have HO2 := Lib.hid (ho.mono hN)
  have HT2 := Lib.hid (HT0.out.gr hg2)
  have HG2 := Lib.hid (HG0.out.trans hg2)
  have HLn : Hid ((opsT l).length ≤ 60) := Lib.hid (opsK_len l 60)
  clear ho hg2 hN HT0 HG0
  generalize hops : opsT l = ops at *
  have HOps := Lib.hid hops
  clear hops
  have hlenw := fun W ty => len_ops (w := W) (q := q) (n := ops.length) (c := c) (ty := ty)
  go_wp2
  go_loopw [7] (fun iv wr => ∃ k : Nat, iv = .int .i64 k ∧ k ≤ ops.length ∧ Hid (TwoAt w.heap.size ta w1.heap.size (tabR (ops.take k)) wr) ∧ Hid (Gr w wr) ∧ Hid (OwnG 67 3 oppC wr w.heap.size (.slice q ops.length c) ops)) (fun iv _ => ops.length - (intOf iv).toNat)
  case atStart => exact ⟨0, rfl, Nat.zero_le _, HT2, HG2, HO2⟩
  case round =>
    obtain ⟨k, rfl, hk, HT, HG, HO⟩ := hrel
    clear HT2 HG2 HO2
    by_cases hkl : k < ops.length
    · obtain ⟨bo, oo, rfl, hc1, hc2, hA⟩ := own_one HO.out rfl hkl
      have HA := Lib.hid hA
      have HLk : Hid ((tabR (ops.take k)).length ≤ 1000000) := Lib.hid (by have := tabR_len (ops.take k); rw [List.length_take] at this; have := HLn.out; omega)
      have HS := Lib.hid (tabR_snoc hkl)
      clear hA
      go_wp2_with fail
      refine (two_a HT.out rfl HG.out HLk.out (HA.out _ HO.out)).mono ?_
      rintro e w5 ⟨rfl, h5, hg5, hf5⟩
      have HH5 := Lib.hid h5
      have HG5 := Lib.hid hg5
      have HO5 := Lib.hid (own_fru hf5 HO.out)
      clear h5 hg5 hf5
      go_wp2_with fail
      refine (two_b HH5.out rfl HG5.out HLk.out (HA.out _ HO5.out) rfl).mono ?_
      rintro e w6 ⟨rfl, h6, hg6, hf6⟩
      obtain ⟨vd, hvd, _⟩ := HH5.out.b.ex
      have HT6 := Lib.hid h6
      have HG6 := Lib.hid hg6
      have HO6 := Lib.hid (own_fr1 hf6 hvd HO5.out)
      clear h6 hg6 hf6 hvd
      go_wp2
      go_roundw
      case rel => exact ⟨k + 1, by go_num, by omega, Lib.hid (by rw [HS.out]; exact HT6.out), HG6, HO6⟩
      case measure => simp [intOf]; omega
    · obtain rfl : k = ops.length := by omega
      go_wp2
      go_ret2
      exact ⟨ta, w1.heap.size, rfl, by have := HT.out; rw [List.take_length] at this; rw [HOps.out]; exact this, HG.out⟩
end Go.Proofs.YthgecojbggoniaaGreatDoor
namespace Go.Proofs.YthgecojbggoniaaGreatDoor
open Go.RowKit
set_option maxRecDepth 100000
set_option linter.unusedVariables false
set_option linter.unusedSimpArgs false
set_option linter.unnecessarySimpa false

structure Fnd where
  key : ByteArray
  val : ByteArray
  is : Bool
  own : Bool
  sw : Int
  sl : Int
  way : Itt
def itt0 : Itt := ⟨0, 0, 0, ⟨#[]⟩, 0, 0, 0, 0, []⟩
def fnd0 : Fnd := ⟨⟨#[]⟩, ⟨#[]⟩, false, false, 0, 0, itt0⟩
def fndA (f : Fnd) (vl : Value) : Array Value := #[.string f.key, .string f.val, .bool f.is, .bool f.own, .int .i64 f.sw, .int .i64 f.sl, .int .i64 f.way.id, .int .i64 f.way.epoch, .int .i64 f.way.prio, .string f.way.anchor, .int .i64 f.way.sw, .int .i64 f.way.sl, .int .i64 f.way.bw, .int .i64 f.way.bl, vl]
def intentR (R : List Rw) (key : ByteArray) : Option Itt := (getR (ofL (intentKeyR key.data.toList).1) R).bind (fun s => takeIttR s.data.toList)
def vOk (x : Rw) : Bool := rdk x && tvk x
def verRow (R : List Rw) (key : ByteArray) (a b : Int) : Option Rw := (betweenR (ofL (versionKeyR key.data.toList a b).1) (ofL (versionKeyR key.data.toList 0 0).1 ++ nul) R).find? vOk
def verF (R : List Rw) (key : ByteArray) (a b : Int) : Fnd × Bool := match verRow R key a b with
  | some x => (⟨key, ⟨(takeVerR x.2.data.toList).1.toArray⟩, isV x, false, sa x, sb x, itt0⟩, true)
  | none => (⟨key, ⟨#[]⟩, false, false, 0, 0, itt0⟩, false)
def restF (R : List Rw) (key : ByteArray) (x : Tx) : Fnd × Int :=
  if ((verF R key (topS x).1 (topS x).2).2 && !lessS (verF R key (topS x).1 (topS x).2).1.sw (verF R key (topS x).1 (topS x).2).1.sl x.rw x.rl) = true then (⟨key, ⟨#[]⟩, false, false, (verF R key (topS x).1 (topS x).2).1.sw, (verF R key (topS x).1 (topS x).2).1.sl, itt0⟩, 121)
  else ((verF R key (topS x).1 (topS x).2).1, 0)
def lastC (l : List Chg) : Chg := l.getLast?.getD ⟨0, ⟨#[]⟩, false⟩
def foundF (R : List Rw) (key : ByteArray) (x : Tx) : Fnd × Int := match intentR R key with
  | none => restF R key x
  | some y =>
    if y.id = x.id then
      if x.ep < y.epoch then (fnd0, 201)
      else if y.epoch = x.ep then (⟨key, (lastC y.l).value, !(lastC y.l).del, true, y.sw, y.sl, itt0⟩, 0)
      else restF R key x
    else if (!lessS (topS x).1 (topS x).2 y.sw y.sl) = true then (⟨key, ⟨#[]⟩, false, false, 0, 0, y⟩, 120)
    else restF R key x
def keyOk (key : ByteArray) : Bool := decide (1 ≤ key.size ∧ key.size ≤ 32)
def getF (R : List Rw) (key : ByteArray) (x : Tx) (a b : Int) : Fnd × Int := if beginsE (keyOk key) x a b ≠ 0 then (fnd0, beginsE (keyOk key) x a b) else foundF R key x
end Go.Proofs.YthgecojbggoniaaGreatDoor
