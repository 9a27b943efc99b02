/- What the rows stand on, part 34: RowX, TabE. Printed by bundle.py out of my texts. -/
import Derived.Test.YthgecojbggoniaaGreatDoorBe01
import Derived.Test.YthgecojbggoniaaGreatDoorBe06
import Derived.Test.YthgecojbggoniaaGreatDoorBe18
import Derived.Test.YthgecojbggoniaaGreatDoorBe27
import Derived.Test.YthgecojbggoniaaGreatDoorBe28
import Derived.Test.YthgecojbggoniaaGreatDoorBe29
import Derived.Test.YthgecojbggoniaaGreatDoorCards
import Derived.Test.YthgecojbggoniaaGreatDoorTie
import Derived.ProofKit
import Derived.OpenShut
import Derived.Deep.DeepHandedRow
import Derived.SizedLaws
import Derived.ShutString
import Derived.Lib.SmallJoins
import Derived.Carry
namespace Go.Proofs.YthgecojbggoniaaGreatDoor
open Go.ChangeShapes Go.WideShapes Go.ChangeAt Go.RowKit

theorem own : ownKnob Tryz.prog.godebug = none := by kernel_rfl
theorem laidOut : laidOutB Tryz.prog = true := by kernel_rfl

def litV : DataW Unit → Value
  | .lit (.int k n) => .int k n
  | _ => undef
def flat1 : DataW Unit → List Value
  | .agg l => l.map litV
  | d => [litV d]
def flat2 : DataW Unit → List Value
  | .agg l => l.flatMap flat1
  | d => [litV d]
def layTab (d : DataW Unit) : Obj → Obj
  | .cells _ t frozen => .cells (flat2 d).toArray t frozen
  | o => o
noncomputable def laidWorld (os : Os) : World :=
  { World.holding Tryz.prog os ⟨#[], #[], []⟩ with heap := ((World.holding Tryz.prog os ⟨#[], #[], []⟩).heap.modify 1 (layTab Go.Pinned.utf8First)).modify 2 (layTab Rows.laid_unicode_utf8_acceptRanges) }

section
variable {H : Type} {enc : TypeId × Value → H} {P : Program} {w : World} {base b0 : Nat} {spare : Nat → Bool} {held : Bool} {r : Reach} {t e : TypeId} {v : Value} {d : DataW H} {p : List MemPlace}

theorem trod_below (h : DataW.Trod enc P w base spare held t v d p) : ∀ x ∈ p, x.block < w.heap.size := by
  obtain ⟨n, hn⟩ := h
  exact fun x hx => DataW.trod_lt n _ _ _ hn x hx

end
end Go.Proofs.YthgecojbggoniaaGreatDoor
namespace Go.Proofs.YthgecojbggoniaaGreatDoor
open Go.ChangeShapes Go.WideShapes Go.ChangeAt Go.RowKit
set_option linter.unusedVariables false

section
variable {M : Nat} {w : World} {v : Value} {D : Dat}
def shStamp : Sh0 := .st [.int, .int]
theorem rep_stamp {cs : List Value} (h : rep M w shStamp cs D) : ∃ a b : Int, cs = [.int .i64 a, .int .i64 b] ∧ (-9223372036854775808 ≤ a ∧ a ≤ 9223372036854775807) ∧ (-9223372036854775808 ≤ b ∧ b ≤ 9223372036854775807) := by
  simp only [shStamp, rep_st, reps_cons, reps_nil, rep_int] at h
  obtain ⟨_, rfl, a, b, _, _, rfl, rfl, ⟨x, rfl, rfl, h1⟩, c, d, _, _, rfl, rfl, ⟨y, rfl, rfl, h2⟩, rfl, rfl⟩ := h
  exact ⟨x, y, rfl, h1, h2⟩
end
end Go.Proofs.YthgecojbggoniaaGreatDoor
namespace Go.Proofs.YthgecojbggoniaaGreatDoor
open Go.RowKit Go.Shelf
set_option maxRecDepth 100000
set_option linter.unusedVariables false
set_option linter.unusedSimpArgs false
set_option linter.unnecessarySimpa false
attribute [local go_sem] Oper.semAt_some

theorem get_tab {tb : Nat} {S : Nat → Prop} {R : List Rw} {w : World} (h : TabAt tb S R w) (key : ByteArray) : Calls Tryz.prog 22 #[.pointer (some ⟨tb, 0, none⟩), .string key] w fun e w' => e = .returned (.tuple (outS (getR key R))) ∧ Gr w w' := by
  obtain ⟨lb, H, bx, L, x, seed, t1, t2, t3, t4, t5, t6⟩ := h.ex
  have HN := Lib.hid (tab_none (lv := .pointer none) t1)
  have HG : Hid (∀ v, getR key R = v → Calls Tryz.prog 51 #[.pointer (some ⟨lb, 0, none⟩), .string key] w fun e w' => e = .returned (.tuple (outS v)) ∧ Gr w w') := Lib.hid (fun v hv => get_row t3 key (by rw [t4]; exact hv))
  obtain ⟨k_0, k_1, k_2, g_0, g_1, g_2, l_0⟩ := blk3 t1
  clear h t1 t2 t3 t4 t5 t6
  cases hv : getR key R with
  | none =>
    have H1 := Lib.hid (HG.out _ hv)
    simp only [outS] at H1 ⊢
    clear HG hv
    go_enter Tryz.func22, Tryz.ntmps22
    go_wp2_with (first | (go_at_call 50; refine HN.out.mono ?_; rintro e w1 ⟨rfl, rfl⟩) | (go_at_call 51; refine H1.out.mono ?_; rintro e w1 ⟨rfl, hg⟩))
    go_ret2
    exact ⟨rfl, hg⟩
  | some s =>
    have H1 := Lib.hid (HG.out _ hv)
    simp only [outS] at H1 ⊢
    clear HG hv
    go_enter Tryz.func22, Tryz.ntmps22
    go_wp2_with (first | (go_at_call 50; refine HN.out.mono ?_; rintro e w1 ⟨rfl, rfl⟩) | (go_at_call 51; refine H1.out.mono ?_; rintro e w1 ⟨rfl, hg⟩))
    go_ret2
    exact ⟨rfl, hg⟩
/-! Rows -/
def eK : ByteArray := ⟨#[]⟩
theorem between_all (R : List Rw) : betweenR eK eK R = R := by
  have he : eK.toList = [] := by rw [ByteArray.toList_eq]; rfl
  have h1 : ∀ x : Rw, klt x.1 eK = false := fun x => by
    unfold klt
    rw [he]
    cases x.1.toList <;> rfl
  have h2 : aboveR eK R = R := by
    unfold aboveR
    cases R with
    | nil => rfl
    | cons x r => rw [List.dropWhile_cons, h1]; rfl
  have h3 : ∀ l : List Rw, l.takeWhile (fun x => eK.toList.isEmpty || klt x.1 eK) = l := by
    intro l
    rw [he]
    induction l with
    | nil => rfl
    | cons x r ih => rw [List.takeWhile_cons, if_pos (by rfl), ih]
  unfold betweenR untilR
  rw [h2, h3]
end Go.Proofs.YthgecojbggoniaaGreatDoor
