/- Plain words of layer 11: whether a record may be, its text. No program in sight. -/
import Derived.Test.YtpnojkgdjkncbaaDoorCelS
import Derived.Test.YtpnojkgdjkncbaaDoorCelR
namespace Go.Proofs.YtpnojkgdjkncbaaDoor
open Go
set_option linter.unusedVariables false

def gtrB (a b : ByteArray) : Bool := !(Op.bytesLess a.toList b.toList || a.toList == b.toList)
def wrtOk (last : ByteArray) (c : Wrt) : Bool := (checkE c.key.size == 0) && gtrB c.key last && idB c.seq
def wrtsOk : ByteArray → List Wrt → Bool
  | _, [] => true
  | last, c :: r => wrtOk last c && wrtsOk c.key r
def lastKey : ByteArray → List Wrt → ByteArray
  | last, [] => last
  | _, c :: r => lastKey c.key r
theorem wrtsOk_snoc : ∀ (l : List Wrt) (last : ByteArray) (c : Wrt), wrtsOk last (l ++ [c]) = (wrtsOk last l && wrtOk (lastKey last l) c)
  | [], last, c => by simp [wrtsOk, lastKey]
  | x :: r, last, c => by simp [wrtsOk, lastKey, wrtsOk_snoc r, Bool.and_assoc]
theorem lastKey_snoc : ∀ (l : List Wrt) (last : ByteArray) (c : Wrt), lastKey last (l ++ [c]) = c.key
  | [], last, c => rfl
  | x :: r, last, c => lastKey_snoc r _ c
theorem wrtsOk_app : ∀ (l m : List Wrt) (last : ByteArray), wrtsOk last l = false → wrtsOk last (l ++ m) = false
  | [], m, last, h => by simp [wrtsOk] at h
  | x :: r, m, last, h => by
    simp only [wrtsOk, Bool.and_eq_false_iff] at h
    simp only [List.cons_append, wrtsOk, Bool.and_eq_false_iff]
    rcases h with h | h
    · exact .inl h
    · exact .inr (wrtsOk_app r m _ h)
def preB (hd : Bool) (status : Int) (n : Nat) : Bool := hd && decide (1 ≤ status) && decide (status ≤ 4) && decide (n ≤ 32) && ((status == 2) || (n == 0))
def recOk (x : Rec) : Bool := preB (headB x.id x.epoch x.prio x.anchor [(x.sw, x.sl), (x.bw, x.bl)]) x.status x.l.length && wrtsOk ⟨#[]⟩ x.l
def wrtW (c : Wrt) : List UInt8 := strW c.key.data.toList ++ numW c.seq
def recH (x : Rec) : List UInt8 := numW x.id ++ numW x.epoch ++ numW x.status ++ numW x.prio ++ strW x.anchor.data.toList ++ (numW x.sw ++ numW x.sl) ++ (numW x.bw ++ numW x.bl) ++ numW (x.l.length : Int)
def recT (x : Rec) : List UInt8 := if recOk x = true then recH x ++ x.l.flatMap wrtW else []
end Go.Proofs.YtpnojkgdjkncbaaDoor
