/- What the rows stand on, part 28: TabD. Printed by bundle.py out of my texts. -/
import Derived.Test.YthgecojbggoniaaGreatDoorBe25
import Derived.RangeFuncNested
import Derived.RangeFuncBound
import Derived.RangeFuncCalls
import Derived.RangeFuncLeaves
import Derived.Shelf.Abstract
import Derived.Shelf.RegionOpen
import Derived.WalkKit
import Derived.OwnWalkIn
import Derived.TacticsInMore
import Derived.LoopNIn
import Derived.LoopIn
namespace Go.Proofs.YthgecojbggoniaaGreatDoor
open Go.RowKit Go.Shelf
set_option maxRecDepth 100000
set_option linter.unusedVariables false
set_option linter.unusedSimpArgs false
set_option linter.unnecessarySimpa false
attribute [local go_sem] Oper.semAt_some

abbrev RisingR (R : List Rw) : Prop := R.Pairwise (fun a b => klt a.1 b.1 = true)
theorem rising_rows {L : List Nd} (h : Rising L) : RisingR (rowsL L) := List.pairwise_map.2 h
/-- the rows from one key on, below another one (none: all) -/
def untilR (tu : ByteArray) (R : List Rw) : List Rw := R.takeWhile (fun x => tu.toList.isEmpty || klt x.1 tu)
def betweenR (fr tu : ByteArray) (R : List Rw) : List Rw := untilR tu (aboveR fr R)
def nul : ByteArray := ⟨#[0]⟩
theorem bl_nul : ∀ (x k : List UInt8), Op.bytesLess x (k ++ [0]) = true → Op.bytesLess x k = true ∨ x = k
  | [], [], _ => .inr rfl
  | [], _ :: _, _ => .inl rfl
  | a :: x, [], h => by
    simp only [List.nil_append, Op.bytesLess, Bool.or_eq_true, decide_eq_true_eq, Bool.and_eq_true, beq_iff_eq] at h
    rcases h with h | ⟨rfl, h⟩
    · exact absurd h (by simp [UInt8.lt_iff_toNat_lt])
    · cases x <;> simp [Op.bytesLess] at h
  | a :: x, b :: k, h => by
    simp only [List.cons_append, Op.bytesLess, Bool.or_eq_true, decide_eq_true_eq, Bool.and_eq_true, beq_iff_eq] at h ⊢
    rcases h with h | ⟨rfl, h⟩
    · exact .inl (.inl h)
    · rcases bl_nul x k h with h | rfl
      · exact .inl (.inr ⟨rfl, h⟩)
      · exact .inr rfl
theorem bl_nul_lt : ∀ (k : List UInt8), Op.bytesLess k (k ++ [0]) = true
  | [] => rfl
  | a :: k => by simp [Op.bytesLess, bl_nul_lt k]
theorem nul_list (k : ByteArray) : (k ++ nul).toList = k.toList ++ [0] := by
  rw [ByteArray.toList_eq, ByteArray.toList_eq]
  simp [nul]
theorem above_next {pre rest : List Rw} {x : Rw} (hR : RisingR (pre ++ x :: rest)) : aboveR (x.1 ++ nul) (pre ++ x :: rest) = rest := by
  obtain ⟨r1, r2, r3⟩ := List.pairwise_append.1 hR
  obtain ⟨r4, r5⟩ := List.pairwise_cons.1 r2
  have hx : klt x.1 (x.1 ++ nul) = true := by show Op.bytesLess _ _ = true; rw [nul_list]; exact bl_nul_lt _
  have hp : ∀ y ∈ pre, klt y.1 (x.1 ++ nul) = true := fun y hy => bl_trans (r3 y hy x (by simp)) hx
  unfold aboveR
  rw [List.dropWhile_append_of_pos hp, List.dropWhile_cons_of_pos (p := fun a : Rw => klt a.1 (x.1 ++ nul)) hx]
  cases rest with
  | nil => rfl
  | cons z r =>
    rw [List.dropWhile_cons_of_neg]
    intro hz
    have hz' : Op.bytesLess z.1.toList (x.1.toList ++ [0]) = true := by rw [← nul_list]; exact hz
    have h4 : Op.bytesLess x.1.toList z.1.toList = true := r4 z (by simp)
    rcases bl_nul _ _ hz' with h | h
    · have := bl_trans h4 h
      rw [bl_irrefl] at this; cases this
    · rw [h, bl_irrefl] at h4; cases h4
theorem tab_first {tb : Nat} {S : Nat → Prop} {R : List Rw} {w : World} (h : TabAt tb S R w) : RisingR R := by
  obtain ⟨lb, H, bx, L, x, seed, h1, h2, h3, h4, h5, h6⟩ := h.ex
  rw [← h4]
  exact rising_rows h3.rise
/-- what a loop over a table sees: the table, and the boxes of its ends -/
structure ItAt (tb b1 b2 b3 : Nat) (S : Nat → Prop) (R : List Rw) (fr tu : ByteArray) (w : World) : Prop where
  tab : TabAt tb S R w
  t1 : w.heap[b1]? = some (.cells #[.pointer (some ⟨tb, 0, none⟩)] 31)
  t2 : w.heap[b2]? = some (.cells #[.string fr] 9)
  t3 : w.heap[b3]? = some (.cells #[.string tu] 9)
theorem ItAt.gr {tb b1 b2 b3 : Nat} {S : Nat → Prop} {R : List Rw} {fr tu : ByteArray} {w w' : World} (h : ItAt tb b1 b2 b3 S R fr tu w) (hg : Gr w w') : ItAt tb b1 b2 b3 S R fr tu w' := ⟨h.tab.gr hg, hg.blk h.t1, hg.blk h.t2, hg.blk h.t3⟩
theorem gr_grown {w w' : World} (h : Gr w w') : w.grownBy w' none := ⟨h.b.os, h.b.tape, h.b.output, h.b.size, fun k hk _ => h.b.block k hk⟩
theorem all_tab (tb : Nat) (fr tu : ByteArray) (w : World) :
    Calls Tryz.prog 45 #[.pointer (some ⟨tb, 0, none⟩), .string fr, .string tu] w fun e w' => e = .returned (.func (.func 73) #[] #[.pointer (some ⟨w.heap.size, 0, none⟩), .pointer (some ⟨w.heap.size + 1, 0, none⟩), .pointer (some ⟨w.heap.size + 2, 0, none⟩)]) ∧
      w'.heap[w.heap.size]? = some (.cells #[.pointer (some ⟨tb, 0, none⟩)] 31) ∧ w'.heap[w.heap.size + 1]? = some (.cells #[.string fr] 9) ∧ w'.heap[w.heap.size + 2]? = some (.cells #[.string tu] 9) ∧ w'.heap.size = w.heap.size + 3 ∧ Gr w w' := by
  go_enter Tryz.func45, Tryz.ntmps45
  go_wp2
  go_ret
  exact ⟨rfl, heap_alloc1 (heap_alloc1 (heap_newn rfl)), heap_alloc1 (heap_newn (by simp)), heap_newn (by simp), by simp, (((Gr.refl w).alloc _).alloc _).alloc _⟩
theorem first_row {lb H : Nat} {S : Nat → Prop} {L : List Nd} {w : World} (h : SkipAt lb H S L w) (key : ByteArray) {A : List Rw} (hA : aboveR key (rowsL L) = A) :
    Calls Tryz.prog 74 #[.pointer (some ⟨lb, 0, none⟩), .string key] w fun e w' => e = .returned (.tuple (match A.head? with | some x => #[.string x.1, .bool true] | none => #[.string ⟨#[]⟩, .bool false])) ∧ Gr w w' := by
  refine (first_sk h key).mono ?_
  rintro e w' ⟨rfl, hg⟩
  refine ⟨?_, hg⟩
  rw [← hA, aboveR_rows]
  cases above key L <;> rfl
def outS (v : Option ByteArray) : Array Value := match v with | some x => #[.string x, .bool true] | none => #[.string ⟨#[]⟩, .bool false]
theorem get_row {lb H : Nat} {S : Nat → Prop} {L : List Nd} {w : World} (h : SkipAt lb H S L w) (key : ByteArray) {v : Option ByteArray} (hv : getR key (rowsL L) = v) :
    Calls Tryz.prog 51 #[.pointer (some ⟨lb, 0, none⟩), .string key] w fun e w' => e = .returned (.tuple (outS v)) ∧ Gr w w' := by
  refine (get_sk h key).mono ?_
  rintro e w' ⟨rfl, hg⟩
  refine ⟨?_, hg⟩
  subst hv
  rw [getR_rows]
  cases getN key L <;> rfl
theorem above_self {k : ByteArray} {R rest : List Rw} {x : Rw} (hR : RisingR R) (h : aboveR k R = x :: rest) : getR x.1 R = some x.2 ∧ aboveR (x.1 ++ nul) R = rest := by
  have e : belowR k R ++ aboveR k R = R := List.takeWhile_append_dropWhile
  rw [h] at e
  have hR2 := hR
  rw [← e] at hR2
  refine ⟨?_, by rw [← e]; exact above_next hR2⟩
  have ha : aboveR x.1 R = x :: rest := by
    rw [← e]
    obtain ⟨r1, r2, r3⟩ := List.pairwise_append.1 hR2
    unfold aboveR
    rw [List.dropWhile_append_of_pos (fun y hy => r3 y hy x (by simp)), List.dropWhile_cons_of_neg]
    rw [show klt x.1 x.1 = false from bl_irrefl _]
    decide
  unfold getR
  rw [ha]
  simp
def strV : Value → ByteArray
  | .string s => s
  | _ => ⟨#[]⟩
/-- rows of texts that are no longer than memory -/
abbrev RwB := { x : Rw // x.1.size < 140737488355328 ∧ x.2.size ≤ 140737488351232 }
def encR (x : RwB) : Array Value := #[.string x.1.1, .string x.1.2]
set_option maxHeartbeats 4000000 in
theorem all_stops {tb b1 b2 b3 : Nat} {S : Nat → Prop} {R : List Rw} {fr tu : ByteArray} (n : Nat) (hn : 1 ≤ n) (Kp : World → World → Prop) (hKp : ∀ W W', ItAt tb b1 b2 b3 S R fr tu W → Kp W W' → ItAt tb b1 b2 b3 S R fr tu W') (hsz : ∀ x ∈ R, x.1.size < 140737488355328 ∧ x.2.size ≤ 140737488351232) (w : World) (h : ItAt tb b1 b2 b3 S R fr tu w) :
    SeqStopsK Fence.wide n Tryz.prog 73 #[.pointer (some ⟨b1, 0, none⟩), .pointer (some ⟨b2, 0, none⟩), .pointer (some ⟨b3, 0, none⟩)] encR Kp (fun xs => xs.map (·.1) = betweenR fr tu R) (fun pre => pre.map (·.1) <+: betweenR fr tu R) (betweenR fr tu R).length w := by
  intro l J Jx W hW hJ hJx hY h0
  have hIt : ItAt tb b1 b2 b3 S R fr tu W := h.gr ⟨hW⟩
  have HIt := Lib.hid hIt
  obtain ⟨p_0, pf_0, pl_0⟩ := blk1 hIt.t2
  obtain ⟨lb, H, bx, L, x, seed, u1, u2, u3, u4, u5, u6⟩ := hIt.tab.ex
  have HNo := Lib.hid (tab_none (lv := .pointer none) u1)
  obtain ⟨o_0, of_0, ol_0⟩ := blk1 hIt.t1
  clear h hIt u1 u2 u3 u4 u5 u6
  refine callsIn_of_wp Tryz.func73 rfl trivial ?_ rfl
  simp only [Tryz.ntmps73, List.size_toArray, List.length_cons, List.length_nil, Nat.reduceAdd, Nat.reduceSub, Array.replicate_succ, Array.replicate_zero, List.push_toArray, List.append_toArray, List.nil_append, List.cons_append]
  gi_wp2_with (first | (refine ⟨trivial, ?_⟩; gi_at_call 50; refine (callsIn_wide.2 HNo.out).mono ?_; rintro e w1 ⟨rfl, rfl⟩))
  gi_loopw [5] (fun av wr => ∃ (pre : List RwB) (at_ : ByteArray), av = .string at_ ∧ betweenR fr tu R = pre.map (·.1) ++ untilR tu (aboveR at_ R) ∧ ItAt tb b1 b2 b3 S R fr tu wr ∧ J pre wr) (fun av _ => (aboveR (strV av) R).length)
  case atStart => exact ⟨[], fr, rfl, rfl, HIt.out, h0⟩
  case round =>
    obtain ⟨pre, at_, rfl, hx, hit, hJp⟩ := hrel
    have HI := Lib.hid hit
    have HX := Lib.hid hx
    have HJp := Lib.hid hJp
    have hrise := tab_first hit.tab
    obtain ⟨o_0, of_0, ol_0⟩ := blk1 hit.t1
    obtain ⟨q_0, qf_0, ql_0⟩ := blk1 hit.t3
    obtain ⟨lb, H, bx, L, x0, seed, u1, u2, u3, u4, u5, u6⟩ := hit.tab.ex
    obtain ⟨k_0, k_1, k_2, g_0, g_1, g_2, l_0⟩ := blk3 u1
    have HS := Lib.hid u3
    have HR4 := Lib.hid u4
    have HR := Lib.hid hrise
    clear hit hx hJp u1 u2 u3 u4 u5 u6 hrise
    cases hA : aboveR at_ R with
    | nil =>
      have HF := Lib.hid (first_row HS.out at_ (A := []) (by rw [HR4.out]; exact hA))
      simp only [List.head?_nil] at HF
      have HXn := HX.out
      rw [hA] at HXn
      clear hA
      gi_wp2_with (first | (refine ⟨trivial, ?_⟩; gi_at_call 74; refine (callsIn_wide.2 HF.out).mono ?_; rintro e w2 ⟨rfl, hg2⟩; have q_1 := hg2.cell' q_0))
      refine bodyPost_ret (results_none rfl _ _ _) rfl ?_
      exact ⟨⟨_, rfl⟩, .inl ⟨pre, by rw [HXn]; simp [untilR], hJ _ _ _ none HJp.out (gr_grown hg2) (fun r e => by cases e)⟩⟩
    | cons x rest =>
      have HF := Lib.hid (first_row HS.out at_ (A := x :: rest) (by rw [HR4.out]; exact hA))
      simp only [List.head?_cons] at HF
      obtain ⟨hs1, hs2⟩ := above_self HR.out hA
      have HGt := Lib.hid (fun W (hg : Gr wr W) => get_row (HS.out.gr hg) x.1 (v := some x.2) (by rw [HR4.out]; exact hs1))
      simp only [outS] at HGt
      have HS2 := Lib.hid hs2
      have hxR : x ∈ R := by
        have e : belowR at_ R ++ aboveR at_ R = R := List.takeWhile_append_dropWhile
        rw [← e, hA]; simp
      have HSz := Lib.hid (hsz x hxR)
      have HMs : Hid ((aboveR (x.1 ++ nul) R).length < (aboveR at_ R).length) := Lib.hid (by rw [hs2, hA]; simp)
      have HXn := HX.out
      rw [hA] at HXn
      have HXh := Lib.hid HXn
      clear hA hs1 hs2 HXn hxR
      cases b0 : tu.toList.isEmpty with
      | true =>
        have hU : Hid (untilR tu (x :: rest) = x :: untilR tu rest) := Lib.hid (by simp [untilR, b0])
        have b0' : tu.toList = [] := by simpa using b0
        gi_wp2_with (first
          | (refine ⟨trivial, ?_⟩; gi_at_call 74; refine (callsIn_wide.2 HF.out).mono ?_; rintro e w2 ⟨rfl, hg2⟩; have q_1 := hg2.cell' q_0; have o_1 := hg2.cell' o_0; have k_10 := hg2.cell' k_0)
          | (refine ⟨trivial, ?_⟩; gi_at_call 51; refine (callsIn_wide.2 (HGt.out w2 hg2)).mono ?_; rintro e w3 ⟨rfl, hg3⟩; obtain ⟨fn, tmps, assign, body, hy, hR⟩ := hY pre ⟨x, HSz.out⟩ w3 (hJ _ _ _ none HJp.out (gr_grown (hg2.trans hg3)) (fun r e => by cases e)) (by rw [HXh.out, hU.out]; simp); simp only [encR] at hy))
        refine hR.mono ?_
        rintro e W3 (⟨rfl, hJ3, hk3⟩ | ⟨rfl, hJx3⟩)
        · have HI3 := Lib.hid (hKp _ _ (HI.out.gr (hg2.trans hg3)) hk3)
          have HJ3 := Lib.hid hJ3
          have hcat : ¬ 140737488355328 < x.1.size + 1 := by have := HSz.out.1; omega
          clear hk3 hJ3 hR hy
          gi_wp2
          go_roundw
          case rel => exact ⟨pre ++ [⟨x, HSz.out⟩], x.1 ++ nul, rfl, by rw [HS2.out, HXh.out, hU.out]; simp, HI3.out, HJ3.out⟩
          case measure => simp only [strV]; exact HMs.out
        · gi_wp2
          refine bodyPost_ret (results_none rfl _ _ _) rfl ?_
          exact ⟨⟨_, rfl⟩, .inr ⟨pre ++ [⟨x, HSz.out⟩], ⟨untilR tu rest, by rw [HXh.out, hU.out]; simp⟩, hJx3⟩⟩
      | false =>
        have b0' : ¬ tu.toList = [] := by intro e; rw [e] at b0; cases b0
        cases b1 : Op.bytesLess x.1.toList tu.toList with
        | true =>
          have hU : Hid (untilR tu (x :: rest) = x :: untilR tu rest) := Lib.hid (by simp [untilR, b0, b1])
          gi_wp2_with (first
            | (refine ⟨trivial, ?_⟩; gi_at_call 74; refine (callsIn_wide.2 HF.out).mono ?_; rintro e w2 ⟨rfl, hg2⟩; have q_1 := hg2.cell' q_0; have o_1 := hg2.cell' o_0; have k_10 := hg2.cell' k_0)
            | (refine ⟨trivial, ?_⟩; gi_at_call 51; refine (callsIn_wide.2 (HGt.out w2 hg2)).mono ?_; rintro e w3 ⟨rfl, hg3⟩; obtain ⟨fn, tmps, assign, body, hy, hR⟩ := hY pre ⟨x, HSz.out⟩ w3 (hJ _ _ _ none HJp.out (gr_grown (hg2.trans hg3)) (fun r e => by cases e)) (by rw [HXh.out, hU.out]; simp); simp only [encR] at hy))
          refine hR.mono ?_
          rintro e W3 (⟨rfl, hJ3, hk3⟩ | ⟨rfl, hJx3⟩)
          · have HI3 := Lib.hid (hKp _ _ (HI.out.gr (hg2.trans hg3)) hk3)
            have HJ3 := Lib.hid hJ3
            have hcat : ¬ 140737488355328 < x.1.size + 1 := by have := HSz.out.1; omega
            clear hk3 hJ3 hR hy
            gi_wp2
            go_roundw
            case rel => exact ⟨pre ++ [⟨x, HSz.out⟩], x.1 ++ nul, rfl, by rw [HS2.out, HXh.out, hU.out]; simp, HI3.out, HJ3.out⟩
            case measure => simp only [strV]; exact HMs.out
          · gi_wp2
            refine bodyPost_ret (results_none rfl _ _ _) rfl ?_
            exact ⟨⟨_, rfl⟩, .inr ⟨pre ++ [⟨x, HSz.out⟩], ⟨untilR tu rest, by rw [HXh.out, hU.out]; simp⟩, hJx3⟩⟩
        | false =>
          have hU : Hid (untilR tu (x :: rest) = []) := Lib.hid (by simp [untilR, b0', b1])
          gi_wp2_with (first | (refine ⟨trivial, ?_⟩; gi_at_call 74; refine (callsIn_wide.2 HF.out).mono ?_; rintro e w2 ⟨rfl, hg2⟩; have q_1 := hg2.cell' q_0))
          refine bodyPost_ret (results_none rfl _ _ _) rfl ?_
          exact ⟨⟨_, rfl⟩, .inl ⟨pre, by rw [HXh.out, hU.out]; simp, hJ _ _ _ none HJp.out (gr_grown hg2) (fun r e => by cases e)⟩⟩
end Go.Proofs.YthgecojbggoniaaGreatDoor
