/- Layer 15: Sweep: plain words; the closure. -/
import Derived.Test.YtocijpeminghoaaGreatDoorTabD
import Derived.Test.YtocijpeminghoaaGreatDoorStmA
import Derived.Test.YtocijpeminghoaaGreatDoorCelX
import Derived.Test.YtocijpeminghoaaGreatDoorOwn
namespace Go.Proofs.YtocijpeminghoaaGreatDoor
open Go.RowKit
set_option maxRecDepth 100000
set_option linter.unusedVariables false
set_option linter.unusedSimpArgs false
set_option linter.unnecessarySimpa false

structure SwSt where
  last : ByteArray
  any : Bool
  out : List Opp
def keyOf (x : Rw) : ByteArray := ⟨(readVersionR x.1.data.toList).1.toArray⟩
def swSkip (lo hi : ByteArray) (a b : Int) (x : Rw) : Bool :=
  !((readVersionR x.1.data.toList).2.2.2 == 0) || !((takeVerR x.2.data.toList).2.2 == 0) || klt (keyOf x) lo || !klt (keyOf x) hi || lessS a b (readVersionR x.1.data.toList).2.1 (readVersionR x.1.data.toList).2.2.1
def swFirst (st : SwSt) (x : Rw) : Bool := !st.any || !((keyOf x).toList == st.last.toList)
def swOne (lo hi : ByteArray) (a b : Int) (st : SwSt) (x : Rw) : SwSt :=
  if swSkip lo hi a b x = true then st else
    ⟨keyOf x, true, if (!swFirst st x || !(takeVerR x.2.data.toList).2.1) = true then st.out ++ [⟨x.1, ⟨#[]⟩, true⟩] else st.out⟩
def swFold (lo hi : ByteArray) (a b : Int) (l : List Rw) : SwSt := l.foldl (swOne lo hi a b) ⟨⟨#[]⟩, false, []⟩
theorem swFold_snoc (lo hi : ByteArray) (a b : Int) (l : List Rw) (x : Rw) : swFold lo hi a b (l ++ [x]) = swOne lo hi a b (swFold lo hi a b l) x := by
  unfold swFold
  rw [List.foldl_append]
  rfl
theorem swOne_len (lo hi : ByteArray) (a b : Int) (st : SwSt) (x : Rw) : (swOne lo hi a b st x).out.length ≤ st.out.length + 1 := by
  unfold swOne
  split
  · omega
  · simp only
    split
    · rw [List.length_append, List.length_singleton]; omega
    · omega
theorem swFold_len (lo hi : ByteArray) (a b : Int) : ∀ (l : List Rw) (st : SwSt), (l.foldl (swOne lo hi a b) st).out.length ≤ st.out.length + l.length
  | [], _ => Nat.le_refl _
  | x :: r, st => by
    have h1 := swFold_len lo hi a b r (swOne lo hi a b st x)
    have h2 := swOne_len lo hi a b st x
    rw [List.foldl_cons, List.length_cons]
    omega
theorem swOut_len (lo hi : ByteArray) (a b : Int) (l : List Rw) : (swFold lo hi a b l).out.length ≤ l.length := by
  have := swFold_len lo hi a b l ⟨⟨#[]⟩, false, []⟩
  simp only [List.length_nil, Nat.zero_add] at this
  exact this
theorem sw1_any {b8 b9 : Nat} (key la : ByteArray) (an : Bool) {w : World} (h8 : w.heap[b8]? = some (.cells #[.string la] 9)) (h9 : w.heap[b9]? = some (.cells #[.bool an] 4)) :
    Calls Tryz.prog 26 #[.string key, .pointer (some ⟨b9, 0, none⟩), .pointer (some ⟨b8, 0, none⟩)] w fun e w' => e = .returned (.bool (!an || !(key.toList == la.toList))) ∧ w' = (w.setCell ⟨b8, 0, none⟩ (.string key)).setCell ⟨b9, 0, none⟩ (.bool true) := by
  have hne : b8 ≠ b9 := fun e => by rw [e, h9] at h8; simp at h8
  have hne2 : b9 ≠ b8 := fun e => hne e.symm
  obtain ⟨k_0, g_0, l_0⟩ := blk1 h8
  obtain ⟨j_0, f_0, m_0⟩ := blk1 h9
  clear h8 h9
  cases an with
  | false =>
    go_enter Tryz.func26, Tryz.ntmps26
    go_wp2
    go_ret
    exact ⟨ret_bool (by simp), rfl⟩
  | true =>
    cases hk : (key.toList == la.toList) with
    | true =>
      go_enter Tryz.func26, Tryz.ntmps26
      go_wp2
      go_ret
      exact ⟨ret_bool (by simp), rfl⟩
    | false =>
      go_enter Tryz.func26, Tryz.ntmps26
      go_wp2
      go_ret
      exact ⟨ret_bool (by simp), rfl⟩
end Go.Proofs.YtocijpeminghoaaGreatDoor
