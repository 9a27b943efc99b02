/- What the rows stand on, part 36: TabG. Printed by bundle.py out of my texts. -/
import Derived.Test.YthgecojbggoniaaGreatDoorBe25
import Derived.Test.YthgecojbggoniaaGreatDoorBe34
import Derived.RangeFuncNested
import Derived.RangeFuncBound
import Derived.RangeFuncCalls
import Derived.RangeFuncLeaves
import Derived.Shelf.Abstract
import Derived.Shelf.RegionOpen
import Derived.WalkKit
import Derived.OwnWalkIn
import Derived.TacticsInMore
import Derived.LoopNIn
import Derived.LoopIn
namespace Go.Proofs.YthgecojbggoniaaGreatDoor
open Go.RowKit
set_option maxRecDepth 100000
set_option linter.unusedVariables false
set_option linter.unusedSimpArgs false
set_option linter.unnecessarySimpa false

abbrev RwI (R : List Rw) := { x : Rw // x ∈ R }
def encI {R : List Rw} (x : RwI R) : Array Value := #[.string x.1.1, .string x.1.2]
theorem steps_sk {lb H : Nat} {S : Nat → Prop} {L : List Nd} {w : World} (h : SkipAt lb H S L w) {key : ByteArray} (hk : ∃ v, getR key (rowsL L) = some v) :
    Calls Tryz.prog 82 #[.pointer (some ⟨lb, 0, none⟩), .string key] w fun e w' => ∃ s : Nat, e = .returned (.int .i64 s) ∧ 1 ≤ s ∧ s ≤ 16 ∧ Gr w w' := by
  have HF := Lib.hid (find_sk h key)
  obtain ⟨v, hv⟩ := hk
  rw [getR_rows] at hv
  obtain ⟨n, hq⟩ : ∃ n, getN key L = some n := by
    cases hq : getN key L with
    | none => rw [hq] at hv; cases hv
    | some n => exact ⟨n, rfl⟩
  obtain ⟨⟨r, hr⟩, _⟩ := getN_mem hq
  have hc := h.chain
  rw [← below_above key L, hr, ← List.cons_append] at hc
  have h1 := chainF_at hc
  have ck : w.cell? ⟨n.blk, 2, none⟩ = some (.int .i64 n.steps) := cell_of h1 rfl
  have hst := h.steps n (by rw [← below_above key L, hr]; simp)
  have HSt := Lib.hid hst
  clear h hv hr hc h1 hst
  rw [hq] at HF
  simp only [ptr] at HF
  go_enter Tryz.func82, Tryz.ntmps82
  go_wp2_with (go_at_call 81; refine HF.out.mono ?_; rintro e w1 ⟨rfl, hg1⟩; have c1 := hg1.cell' ck)
  go_ret
  exact ⟨n.steps, rfl, HSt.out.1, HSt.out.2, hg1⟩
set_option maxHeartbeats 4000000 in
theorem all_stops_in {tb b1 b2 b3 : Nat} {S : Nat → Prop} {R : List Rw} {fr tu : ByteArray} (n : Nat) (hn : 1 ≤ n) (Kp : World → World → Prop) (hKp : ∀ W W', ItAt tb b1 b2 b3 S R fr tu W → Kp W W' → ItAt tb b1 b2 b3 S R fr tu W') (hsz : ∀ x ∈ R, x.1.size < 140737488355328 ∧ x.2.size ≤ 140737488351232) (w : World) (h : ItAt tb b1 b2 b3 S R fr tu w) :
    SeqStopsK Fence.wide n Tryz.prog 73 #[.pointer (some ⟨b1, 0, none⟩), .pointer (some ⟨b2, 0, none⟩), .pointer (some ⟨b3, 0, none⟩)] (encI (R := R)) Kp (fun (xs : List (RwI R)) => xs.map (·.1) = betweenR fr tu R) (fun (pre : List (RwI R)) => pre.map (·.1) <+: betweenR fr tu R) (betweenR fr tu R).length w := by
  intro l J Jx W hW hJ hJx hY h0
  have hIt : ItAt tb b1 b2 b3 S R fr tu W := h.gr ⟨hW⟩
  have HIt := Lib.hid hIt
  obtain ⟨p_0, pf_0, pl_0⟩ := blk1 hIt.t2
  obtain ⟨lb, H, bx, L, x, seed, u1, u2, u3, u4, u5, u6⟩ := hIt.tab.ex
  have HNo := Lib.hid (tab_none (lv := .pointer none) u1)
  obtain ⟨o_0, of_0, ol_0⟩ := blk1 hIt.t1
  clear h hIt u1 u2 u3 u4 u5 u6
  refine callsIn_of_wp Tryz.func73 rfl trivial ?_ rfl
  simp only [Tryz.ntmps73, List.size_toArray, List.length_cons, List.length_nil, Nat.reduceAdd, Nat.reduceSub, Array.replicate_succ, Array.replicate_zero, List.push_toArray, List.append_toArray, List.nil_append, List.cons_append]
  gi_wp2_with (first | (refine ⟨trivial, ?_⟩; gi_at_call 50; refine (callsIn_wide.2 HNo.out).mono ?_; rintro e w1 ⟨rfl, rfl⟩))
  gi_loopw [5] (fun av wr => ∃ (pre : List (RwI R)) (at_ : ByteArray), av = .string at_ ∧ betweenR fr tu R = pre.map (·.1) ++ untilR tu (aboveR at_ R) ∧ ItAt tb b1 b2 b3 S R fr tu wr ∧ J pre wr) (fun av _ => (aboveR (strV av) R).length)
  case atStart => exact ⟨[], fr, rfl, rfl, HIt.out, h0⟩
  case round =>
    obtain ⟨pre, at_, rfl, hx, hit, hJp⟩ := hrel
    have HI := Lib.hid hit
    have HX := Lib.hid hx
    have HJp := Lib.hid hJp
    have hrise := tab_first hit.tab
    obtain ⟨o_0, of_0, ol_0⟩ := blk1 hit.t1
    obtain ⟨q_0, qf_0, ql_0⟩ := blk1 hit.t3
    obtain ⟨lb, H, bx, L, x0, seed, u1, u2, u3, u4, u5, u6⟩ := hit.tab.ex
    obtain ⟨k_0, k_1, k_2, g_0, g_1, g_2, l_0⟩ := blk3 u1
    have HS := Lib.hid u3
    have HR4 := Lib.hid u4
    have HR := Lib.hid hrise
    clear hit hx hJp u1 u2 u3 u4 u5 u6 hrise
    cases hA : aboveR at_ R with
    | nil =>
      have HF := Lib.hid (first_row HS.out at_ (A := []) (by rw [HR4.out]; exact hA))
      simp only [List.head?_nil] at HF
      have HXn := HX.out
      rw [hA] at HXn
      clear hA
      gi_wp2_with (first | (refine ⟨trivial, ?_⟩; gi_at_call 74; refine (callsIn_wide.2 HF.out).mono ?_; rintro e w2 ⟨rfl, hg2⟩; have q_1 := hg2.cell' q_0))
      refine bodyPost_ret (results_none rfl _ _ _) rfl ?_
      exact ⟨⟨_, rfl⟩, .inl ⟨pre, by rw [HXn]; simp [untilR], hJ _ _ _ none HJp.out (gr_grown hg2) (fun r e => by cases e)⟩⟩
    | cons x rest =>
      have HF := Lib.hid (first_row HS.out at_ (A := x :: rest) (by rw [HR4.out]; exact hA))
      simp only [List.head?_cons] at HF
      obtain ⟨hs1, hs2⟩ := above_self HR.out hA
      have HGt := Lib.hid (fun W (hg : Gr wr W) => get_row (HS.out.gr hg) x.1 (v := some x.2) (by rw [HR4.out]; exact hs1))
      simp only [outS] at HGt
      have HS2 := Lib.hid hs2
      have hxR : x ∈ R := by
        have e : belowR at_ R ++ aboveR at_ R = R := List.takeWhile_append_dropWhile
        rw [← e, hA]; simp
      have HSz := Lib.hid (hsz x hxR)
      have HxR := Lib.hid hxR
      have HMs : Hid ((aboveR (x.1 ++ nul) R).length < (aboveR at_ R).length) := Lib.hid (by rw [hs2, hA]; simp)
      have HXn := HX.out
      rw [hA] at HXn
      have HXh := Lib.hid HXn
      clear hA hs1 hs2 HXn hxR
      cases b0 : tu.toList.isEmpty with
      | true =>
        have hU : Hid (untilR tu (x :: rest) = x :: untilR tu rest) := Lib.hid (by simp [untilR, b0])
        have b0' : tu.toList = [] := by simpa using b0
        gi_wp2_with (first
          | (refine ⟨trivial, ?_⟩; gi_at_call 74; refine (callsIn_wide.2 HF.out).mono ?_; rintro e w2 ⟨rfl, hg2⟩; have q_1 := hg2.cell' q_0; have o_1 := hg2.cell' o_0; have k_10 := hg2.cell' k_0)
          | (refine ⟨trivial, ?_⟩; gi_at_call 51; refine (callsIn_wide.2 (HGt.out w2 hg2)).mono ?_; rintro e w3 ⟨rfl, hg3⟩; obtain ⟨fn, tmps, assign, body, hy, hR⟩ := hY pre ⟨x, HxR.out⟩ w3 (hJ _ _ _ none HJp.out (gr_grown (hg2.trans hg3)) (fun r e => by cases e)) (by rw [HXh.out, hU.out]; simp); simp only [encI] at hy))
        refine hR.mono ?_
        rintro e W3 (⟨rfl, hJ3, hk3⟩ | ⟨rfl, hJx3⟩)
        · have HI3 := Lib.hid (hKp _ _ (HI.out.gr (hg2.trans hg3)) hk3)
          have HJ3 := Lib.hid hJ3
          have hcat : ¬ 140737488355328 < x.1.size + 1 := by have := HSz.out.1; omega
          clear hk3 hJ3 hR hy
          gi_wp2
          go_roundw
          case rel => exact ⟨pre ++ [⟨x, HxR.out⟩], x.1 ++ nul, rfl, by rw [HS2.out, HXh.out, hU.out]; simp, HI3.out, HJ3.out⟩
          case measure => simp only [strV]; exact HMs.out
        · gi_wp2
          refine bodyPost_ret (results_none rfl _ _ _) rfl ?_
          exact ⟨⟨_, rfl⟩, .inr ⟨pre ++ [⟨x, HxR.out⟩], ⟨untilR tu rest, by rw [HXh.out, hU.out]; simp⟩, hJx3⟩⟩
      | false =>
        have b0' : ¬ tu.toList = [] := by intro e; rw [e] at b0; cases b0
        cases b1 : Op.bytesLess x.1.toList tu.toList with
        | true =>
          have hU : Hid (untilR tu (x :: rest) = x :: untilR tu rest) := Lib.hid (by simp [untilR, b0, b1])
          gi_wp2_with (first
            | (refine ⟨trivial, ?_⟩; gi_at_call 74; refine (callsIn_wide.2 HF.out).mono ?_; rintro e w2 ⟨rfl, hg2⟩; have q_1 := hg2.cell' q_0; have o_1 := hg2.cell' o_0; have k_10 := hg2.cell' k_0)
            | (refine ⟨trivial, ?_⟩; gi_at_call 51; refine (callsIn_wide.2 (HGt.out w2 hg2)).mono ?_; rintro e w3 ⟨rfl, hg3⟩; obtain ⟨fn, tmps, assign, body, hy, hR⟩ := hY pre ⟨x, HxR.out⟩ w3 (hJ _ _ _ none HJp.out (gr_grown (hg2.trans hg3)) (fun r e => by cases e)) (by rw [HXh.out, hU.out]; simp); simp only [encI] at hy))
          refine hR.mono ?_
          rintro e W3 (⟨rfl, hJ3, hk3⟩ | ⟨rfl, hJx3⟩)
          · have HI3 := Lib.hid (hKp _ _ (HI.out.gr (hg2.trans hg3)) hk3)
            have HJ3 := Lib.hid hJ3
            have hcat : ¬ 140737488355328 < x.1.size + 1 := by have := HSz.out.1; omega
            clear hk3 hJ3 hR hy
            gi_wp2
            go_roundw
            case rel => exact ⟨pre ++ [⟨x, HxR.out⟩], x.1 ++ nul, rfl, by rw [HS2.out, HXh.out, hU.out]; simp, HI3.out, HJ3.out⟩
            case measure => simp only [strV]; exact HMs.out
          · gi_wp2
            refine bodyPost_ret (results_none rfl _ _ _) rfl ?_
            exact ⟨⟨_, rfl⟩, .inr ⟨pre ++ [⟨x, HxR.out⟩], ⟨untilR tu rest, by rw [HXh.out, hU.out]; simp⟩, hJx3⟩⟩
        | false =>
          have hU : Hid (untilR tu (x :: rest) = []) := Lib.hid (by simp [untilR, b0', b1])
          gi_wp2_with (first | (refine ⟨trivial, ?_⟩; gi_at_call 74; refine (callsIn_wide.2 HF.out).mono ?_; rintro e w2 ⟨rfl, hg2⟩; have q_1 := hg2.cell' q_0))
          refine bodyPost_ret (results_none rfl _ _ _) rfl ?_
          exact ⟨⟨_, rfl⟩, .inl ⟨pre, by rw [HXh.out, hU.out]; simp, hJ _ _ _ none HJp.out (gr_grown hg2) (fun r e => by cases e)⟩⟩
end Go.Proofs.YthgecojbggoniaaGreatDoor
