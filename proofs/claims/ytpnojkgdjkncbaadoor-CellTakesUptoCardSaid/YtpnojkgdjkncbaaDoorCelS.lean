/- Plain words of layer 11: intents and records, whether they may be, their texts. No program in sight. -/
import Derived.Test.YtpnojkgdjkncbaaDoorCelQ
import Derived.Test.YtpnojkgdjkncbaaDoorOrdP
namespace Go.Proofs.YtpnojkgdjkncbaaDoor
open Go
set_option linter.unusedVariables false

structure Chg where
  seq : Int
  value : ByteArray
  del : Bool
structure Wrt where
  key : ByteArray
  seq : Int
structure Itt where
  id : Int
  epoch : Int
  prio : Int
  anchor : ByteArray
  sw : Int
  sl : Int
  bw : Int
  bl : Int
  l : List Chg
structure Rec where
  id : Int
  epoch : Int
  status : Int
  prio : Int
  anchor : ByteArray
  sw : Int
  sl : Int
  bw : Int
  bl : Int
  l : List Wrt

def idB (n : Int) : Bool := decide (1 ≤ n) && decide (n ≤ 9007199254740991)
def plainB (id epoch prio : Int) : Bool := idB id && decide (0 ≤ epoch) && decide (epoch ≤ 9007199254740991) && decide (1 ≤ prio) && decide (prio ≤ 1000)
def headB (id epoch prio : Int) (anchor : ByteArray) (ps : List (Int × Int)) : Bool := plainB id epoch prio && (checkE anchor.size == 0) && ps.all fun p => mayB p.1 p.2
def chgOk (last : Int) (c : Chg) : Bool := decide (last < c.seq) && decide (c.seq ≤ 9007199254740991) && decide (c.value.size ≤ 64) && !(c.del && !(c.value.size == 0))
def chgsOk : Int → List Chg → Bool
  | _, [] => true
  | last, c :: r => chgOk last c && chgsOk c.seq r
def lastSeq : Int → List Chg → Int
  | last, [] => last
  | _, c :: r => lastSeq c.seq r
theorem chgsOk_snoc : ∀ (l : List Chg) (last : Int) (c : Chg), chgsOk last (l ++ [c]) = (chgsOk last l && chgOk (lastSeq last l) c)
  | [], last, c => by simp [chgsOk, lastSeq]
  | x :: r, last, c => by simp [chgsOk, lastSeq, chgsOk_snoc r, Bool.and_assoc]
theorem lastSeq_snoc : ∀ (l : List Chg) (last : Int) (c : Chg), lastSeq last (l ++ [c]) = c.seq
  | [], last, c => rfl
  | x :: r, last, c => lastSeq_snoc r _ c
theorem chgsOk_app : ∀ (l m : List Chg) (last : Int), chgsOk last l = false → chgsOk last (l ++ m) = false
  | [], m, last, h => by simp [chgsOk] at h
  | x :: r, m, last, h => by
    simp only [chgsOk, Bool.and_eq_false_iff] at h
    simp only [List.cons_append, chgsOk, Bool.and_eq_false_iff]
    rcases h with h | h
    · exact .inl h
    · exact .inr (chgsOk_app r m _ h)
def ittOk (x : Itt) : Bool := headB x.id x.epoch x.prio x.anchor [(x.sw, x.sl), (x.bw, x.bl)] && decide (1 ≤ x.l.length) && decide (x.l.length ≤ 16) && chgsOk 0 x.l
def okE (b : Bool) : Int := if b = true then 0 else 2

def chgCells (c : Chg) : List Value := [.int .i64 c.seq, .string c.value, .bool c.del]
def wrtCells (c : Wrt) : List Value := [.string c.key, .int .i64 c.seq]
def chgW (c : Chg) : List UInt8 := numW c.seq ++ (numW (if c.del then 1 else 0) ++ strW c.value.data.toList)
def ittW (x : Itt) : List UInt8 := numW x.id ++ numW x.epoch ++ numW x.prio ++ strW x.anchor.data.toList ++ (numW x.sw ++ numW x.sl) ++ (numW x.bw ++ numW x.bl) ++ numW x.l.length ++ x.l.flatMap chgW
def ittT (x : Itt) : List UInt8 := if ittOk x = true then ittW x else []

/-! lists that are compared element by element -/
def eqL {α : Type} (f : α → α → Bool) : List α → List α → Bool
  | [], [] => true
  | a :: x, b :: y => f a b && eqL f x y
  | _, _ => false
theorem eqL_len {α : Type} {f : α → α → Bool} : ∀ {a b : List α}, a.length ≠ b.length → eqL f a b = false
  | [], [], h => absurd rfl h
  | [], _ :: _, _ => rfl
  | _ :: _, [], _ => rfl
  | a :: x, b :: y, h => by
    simp only [eqL, eqL_len (a := x) (b := y) (by simpa using h), Bool.and_false]
theorem eqL_snoc {α : Type} {f : α → α → Bool} : ∀ {a b : List α} (c d : α), a.length = b.length → eqL f (a ++ [c]) (b ++ [d]) = (eqL f a b && f c d)
  | [], [], c, d, _ => by simp [eqL]
  | [], _ :: _, _, _, h => by simp at h
  | _ :: _, [], _, _, h => by simp at h
  | a :: x, b :: y, c, d, h => by
    simp only [List.cons_append, eqL, eqL_snoc (a := x) (b := y) c d (by simpa using h), Bool.and_assoc]
theorem eqL_app {α : Type} {f : α → α → Bool} : ∀ {a b : List α} (x y : List α), a.length = b.length → eqL f a b = false → eqL f (a ++ x) (b ++ y) = false
  | [], [], x, y, _, h => by simp [eqL] at h
  | [], _ :: _, _, _, h, _ => by simp at h
  | _ :: _, [], _, _, h, _ => by simp at h
  | a :: p, b :: q, x, y, hl, h => by
    simp only [eqL, Bool.and_eq_false_iff] at h
    simp only [List.cons_append, eqL, Bool.and_eq_false_iff]
    rcases h with h | h
    · exact .inl h
    · exact .inr (eqL_app x y (by simpa using hl) h)
theorem eqL_self {α : Type} {f : α → α → Bool} (hf : ∀ a, f a a = true) : ∀ l : List α, eqL f l l = true
  | [] => rfl
  | a :: x => by simp [eqL, hf, eqL_self hf x]
def eqChg (c d : Chg) : Bool := (c.seq == d.seq) && (c.value.toList == d.value.toList) && (c.del == d.del)
def eqWrt (c d : Wrt) : Bool := (c.key.toList == d.key.toList) && (c.seq == d.seq)
def eqItt (a b : Itt) : Bool := (a.id == b.id) && (a.epoch == b.epoch) && (a.prio == b.prio) && (a.anchor.toList == b.anchor.toList) && (a.sw == b.sw) && (a.sl == b.sl) && (a.bw == b.bw) && (a.bl == b.bl) && eqL eqChg a.l b.l
def eqRec (a b : Rec) : Bool := (a.id == b.id) && (a.epoch == b.epoch) && (a.status == b.status) && (a.prio == b.prio) && (a.anchor.toList == b.anchor.toList) && (a.sw == b.sw) && (a.sl == b.sl) && (a.bw == b.bw) && (a.bl == b.bl) && eqL eqWrt a.l b.l
theorem eqChg_self (c : Chg) : eqChg c c = true := by simp [eqChg]
theorem eqWrt_self (c : Wrt) : eqWrt c c = true := by simp [eqWrt]
theorem eqItt_self (a : Itt) : eqItt a a = true := by simp [eqItt, eqL_self eqChg_self]
theorem eqRec_self (a : Rec) : eqRec a a = true := by simp [eqRec, eqL_self eqWrt_self]
end Go.Proofs.YtpnojkgdjkncbaaDoor
