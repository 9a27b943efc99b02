/- Layer 15's laid: the two tables beside each other; a table of cells. -/
import Derived.Test.YtocijpeminghoaaGreatDoorRftD
import Derived.Test.YtocijpeminghoaaGreatDoorSweB
import Derived.Test.YtocijpeminghoaaGreatDoorRfkA
import Derived.Test.YtocijpeminghoaaGreatDoorCelE
namespace Go.Proofs.YtocijpeminghoaaGreatDoor
open Go.RowKit
set_option maxRecDepth 100000
set_option linter.unusedVariables false
set_option linter.unusedSimpArgs false
set_option linter.unnecessarySimpa false

theorem TabAt.fr1 {t tb : Nat} {S : Nat → Prop} {R : List Rw} {w w' : World} (h : TabAt t S R w) (hf : Fr1 tb w w') (hS : ¬ S tb) : TabAt t S R w' := by
  obtain ⟨lb, H, bx, L, x, seed, t1, t2, t3, t4, t5, t6⟩ := h.ex
  have hk : ∀ k, S k → k ≠ tb := fun k hk e => hS (e ▸ hk)
  exact ⟨⟨lb, H, bx, L, x, seed, hf.blk _ _ (hk _ t6) t1, hf.blk _ _ (hk _ t5) t2,
    { t3 with list := hf.blk _ _ (hk _ t3.sl) t3.list, chain := chainF_blk t3.chain (fun n hn o ho => hf.blk _ _ (hk _ (t3.sn n hn)) ho) }, t4, t5, t6⟩⟩
theorem TabAt.low {t : Nat} {S : Nat → Prop} {R : List Rw} {w : World} (h : TabAt t S R w) : TabAt t (fun k => S k ∧ k < w.heap.size) R w := by
  obtain ⟨lb, H, bx, L, x, seed, t1, t2, t3, t4, t5, t6⟩ := h.ex
  refine ⟨⟨lb, H, bx, L, x, seed, t1, t2, { t3 with sl := ⟨t3.sl, (Array.getElem?_eq_some_iff.1 t3.list).1⟩, sn := fun n hn => ⟨t3.sn n hn, ?_⟩ }, t4, ⟨t5, (Array.getElem?_eq_some_iff.1 t2).1⟩, ⟨t6, (Array.getElem?_eq_some_iff.1 t1).1⟩⟩⟩
  obtain ⟨A, B, e⟩ := List.append_of_mem hn
  have hc := t3.chain
  rw [e] at hc
  exact (Array.getElem?_eq_some_iff.1 (chainF_at hc)).1
theorem DocAt.fru {tb N : Nat} {S : Nat → Prop} {R : List Rw} {w w' : World} (h : DocAt tb N R w) (hf : FrU S w w') : DocAt tb N R w' := by
  refine h.blk (fun k cs t fz ht hk => hf.blk k _ hk (fun _ hi => ?_))
  rcases hi with ⟨cs', fz', h1 | h1⟩ | ⟨cs', fz', h1⟩ <;> injection h1 with _ h2 _ <;> rw [h2] at ht <;> rcases ht with ht | ht <;> exact absurd ht (by decide)
/-- the program's table and the document's, with the same rows -/
structure TwoAt (N ta tb : Nat) (R : List Rw) (w : World) : Prop where
  a : TabAt ta (fun k => N ≤ k ∧ k ≠ tb) R w
  b : DocAt tb N R w
theorem TwoAt.gr {N ta tb : Nat} {R : List Rw} {w w' : World} (h : TwoAt N ta tb R w) (hg : Gr w w') : TwoAt N ta tb R w' := ⟨h.a.gr hg, h.b.gr hg⟩
structure HalfAt (N ta tb : Nat) (R R' : List Rw) (w : World) : Prop where
  a : TabAt ta (fun k => N ≤ k ∧ k ≠ tb) R' w
  b : DocAt tb N R w
theorem HalfAt.gr {N ta tb : Nat} {R R' : List Rw} {w w' : World} (h : HalfAt N ta tb R R' w) (hg : Gr w w') : HalfAt N ta tb R R' w' := ⟨h.a.gr hg, h.b.gr hg⟩
theorem DocAt.lt {tb N : Nat} {R : List Rw} {w : World} (h : DocAt tb N R w) : tb < w.heap.size := by
  obtain ⟨v, h1, _⟩ := h.ex
  exact (Array.getElem?_eq_some_iff.1 h1).1
theorem one_rdo {g : Nat} {K V : ByteArray} {w : World} (h : w.heap[g]? = some (.cells #[.string K, .string V, .bool false] 65)) : RdO w (.slice (some ⟨g, 0, none⟩) 1 1) [⟨K, V, false⟩] := by
  refine .inr ⟨g, 0, 1, rfl, by simp, by simp, by decide, (Array.getElem?_eq_some_iff.1 h).1, fun i hi => ?_⟩
  obtain rfl : i = 0 := by simpa using hi
  refine ⟨_, rfl, fun j hj => ?_, rfl⟩
  have hj3 : j < 3 := hj
  simp only [World.cell?, h]
  obtain rfl | rfl | rfl : j = 0 ∨ j = 1 ∨ j = 2 := by omega
  all_goals simp [oppC]
theorem put_a {N ta tb g : Nat} {R : List Rw} {w w0 : World} (h : TwoAt N ta tb R w) (hw0 : w0.heap.size = N) (hgr : Gr w0 w) (hR : R.length ≤ 1000000) {K V : ByteArray} (hg : w.heap[g]? = some (.cells #[.string K, .string V, .bool false] 65)) :
    Calls Tryz.prog 11 #[.pointer (some ⟨ta, 0, none⟩), .slice (some ⟨g, 0, none⟩) 1 1] w fun e w' => e = .returned (.int .i64 (applyE [⟨K, V, false⟩])) ∧ HalfAt N ta tb R (afterR [⟨K, V, false⟩] R) w' ∧ Gr w0 w' ∧ w'.heap[g]? = some (.cells #[.string K, .string V, .bool false] 65) := by
  have hnt : ¬ isTab (.cells #[.string K, .string V, .bool false] 65) := by
    rintro (⟨cs', fz', h1 | h1⟩ | ⟨cs', fz', h1⟩) <;> injection h1 with _ h2 _ <;> exact absurd h2 (by decide)
  refine (apply_tab h.a (one_rdo hg) (by simp) (by omega) (fun g' hg' _ _ => ?_)).mono ?_
  · simp only [Value.ownBlock, Option.some.injEq] at hg'
    subst hg'
    exact ⟨_, _, _, hg, hnt⟩
  rintro e w' ⟨rfl, h1, h2⟩
  have hlt := h.b.lt
  have hsz := hgr.size
  refine ⟨rfl, ⟨h1.mono (fun k hk => ?_), h.b.fru h2⟩, FrU.toGr hgr h2 (fun k hk => ?_), h2.blk _ _ hg (fun _ => hnt)⟩
  · rcases hk with hk | hk
    · exact hk
    · exact ⟨by omega, by omega⟩
  · rcases hk with hk | hk
    · rw [hw0]; exact hk.1
    · omega
theorem put_b {N ta tb g : Nat} {R R' : List Rw} {w w0 : World} (h : HalfAt N ta tb R R' w) (hw0 : w0.heap.size = N) (hgr : Gr w0 w) (hR : R.length ≤ 1000000) {K V : ByteArray} (hg : w.heap[g]? = some (.cells #[.string K, .string V, .bool false] 65)) (hR' : R' = afterR [⟨K, V, false⟩] R) :
    Calls Tryz.prog 24 #[.pointer (some ⟨tb, 0, none⟩), .slice (some ⟨g, 0, none⟩) 1 1] w fun e w' => e = .returned (.int .i64 (applyE [⟨K, V, false⟩])) ∧ TwoAt N ta tb R' w' ∧ Gr w0 w' := by
  have hsz := hgr.size
  refine (apply10 h.b (by omega) (one_rdo hg) (by simp; omega) (fun e => ?_)).mono ?_
  · simp only [Value.ownBlock, Option.some.injEq] at e
    subst e
    obtain ⟨v, h1, _⟩ := h.b.ex
    rw [h1] at hg
    injection hg with hg
    injection hg with _ h2 _
    exact absurd h2 (by decide)
  rintro e w' ⟨rfl, h1, h2⟩
  subst hR'
  exact ⟨rfl, ⟨h.a.fr1 h2 (fun hs => hs.2 rfl), h1⟩, Fr1.toGr hgr h2 (by rw [hw0]; exact h.b.low)⟩
theorem two_new {w w1 w2 : World} {ta tb : Nat} (h1 : TabAt ta (fun k => w.heap.size ≤ k) [] w1) (hg : Gr w w1) (h2 : DocAt tb w1.heap.size [] w2) (hg2 : Gr w1 w2) : TwoAt w.heap.size ta tb [] w2 :=
  ⟨(h1.low.mono (fun k hk => ⟨hk.1, by have := h2.low; have := hk.2; omega⟩)).gr hg2, h2.mono hg.size⟩
end Go.Proofs.YtocijpeminghoaaGreatDoor
namespace Go.Proofs.YtocijpeminghoaaGreatDoor
open Go.RowKit
set_option maxRecDepth 100000
set_option linter.unusedVariables false
set_option linter.unusedSimpArgs false
set_option linter.unnecessarySimpa false

structure Cl where
  kind : Int
  key : ByteArray
  wall : Int
  tick : Int
  gone : Bool
  val : ByteArray
def clC (c : Cl) : List Value := [.int .i64 c.kind, .string c.key, .int .i64 c.wall, .int .i64 c.tick, .bool c.gone, .string c.val]
abbrev RdC (w : World) (v : Value) (l : List Cl) : Prop := RdR (fun _ ds a => ds = clC a) 6 w v l
theorem RdC.gr {a b : World} {v : Value} {l : List Cl} (h : RdC a v l) (hg : Gr a b) : RdC b v l := RdR.gr (fun _ _ _ _ _ h => h) hg h
theorem RdC.form {w : World} {v : Value} {l : List Cl} (h : RdC w v l) : ∃ q c, v = .slice q l.length c := by
  rcases h with ⟨rfl, q, c, rfl, _⟩ | ⟨blk, off, cap, rfl, _⟩
  · exact ⟨q, c, rfl⟩
  · exact ⟨_, _, rfl⟩
theorem RdC.at {w : World} {v : Value} {l : List Cl} (h : RdC w v l) {k : Nat} (hk : k < l.length) : ∃ blk off cap, v = .slice (some ⟨blk, off, none⟩) l.length cap ∧ l.length ≤ cap ∧ cap ≤ maxLen ∧
    w.cell? ⟨blk, off + k * 6, none⟩ = some (.int .i64 l[k].kind) ∧ w.cell? ⟨blk, off + k * 6 + 1, none⟩ = some (.string l[k].key) ∧ w.cell? ⟨blk, off + k * 6 + 2, none⟩ = some (.int .i64 l[k].wall) ∧
    w.cell? ⟨blk, off + k * 6 + 3, none⟩ = some (.int .i64 l[k].tick) ∧ w.cell? ⟨blk, off + k * 6 + 4, none⟩ = some (.bool l[k].gone) ∧ w.cell? ⟨blk, off + k * 6 + 5, none⟩ = some (.string l[k].val) := by
  rcases h with ⟨rfl, _⟩ | ⟨blk, off, cap, rfl, h1, h2, h3, h4, h5⟩
  · simp at hk
  · obtain ⟨ds, d1, d2, d3⟩ := h5 k hk
    subst d3
    have hc : ∀ j (hj : j < 6), w.cell? ⟨blk, off + k * 6 + j, none⟩ = some ((clC l[k])[j]'(by simpa [clC] using hj)) := fun j hj => by rw [Nat.add_assoc]; exact d2 j (by simpa [clC] using hj)
    exact ⟨blk, off, cap, rfl, h2, h3, hc 0 (by decide), hc 1 (by decide), hc 2 (by decide), hc 3 (by decide), hc 4 (by decide), hc 5 (by decide)⟩
theorem len_cls {w : World} {q : Option Addr} {n c : Nat} {ty : TypeId} : (Builtin.len_ #[22] ty #[.slice q n c]).run Tryz.prog w = .ok (.int .i64 n) w := by
  cases q <;> simp [Builtin.len_, run_underlying Tryz.underlying22, go_sem]
def ofL (l : List UInt8) : ByteArray := ⟨l.toArray⟩
def verOf (c : Cl) : List UInt8 := if c.gone = true then [] else c.val.data.toList
def laidOp (c : Cl) : Option Opp :=
  if bringI c.kind 6 = 4 then (if (intentKeyR c.key.data.toList).2 = 0 then some ⟨ofL (intentKeyR c.key.data.toList).1, c.val, false⟩ else none)
  else if bringI c.kind 6 = 5 then some ⟨vK ++ c.key, c.val, false⟩
  else if (versionKeyR c.key.data.toList c.wall c.tick).2 = 0 ∧ versionE (verOf c) (!c.gone) = 0 then some ⟨ofL (versionKeyR c.key.data.toList c.wall c.tick).1, ofL (versionW (verOf c) (!c.gone)), false⟩
  else none
def laidRow (R : List Rw) (c : Cl) : List Rw := match laidOp c with | some o => afterR [o] R | none => R
def laidR (l : List Cl) : List Rw := l.foldl laidRow []
theorem laidR_snoc {l : List Cl} {k : Nat} (hk : k < l.length) : laidR (l.take (k + 1)) = laidRow (laidR (l.take k)) l[k] := by
  unfold laidR
  rw [List.take_succ_eq_append_getElem hk, List.foldl_append]
  rfl
theorem len_laidRow (R : List Rw) (c : Cl) : (laidRow R c).length ≤ R.length + 1 := by
  unfold laidRow
  split
  · unfold afterR
    split
    · exact len_apply [_] R
    · omega
  · omega
theorem len_fold : ∀ (l : List Cl) (R : List Rw), (l.foldl laidRow R).length ≤ R.length + l.length
  | [], R => Nat.le_refl _
  | c :: l, R => by
    have h1 := len_fold l (laidRow R c)
    have h2 := len_laidRow R c
    rw [List.foldl_cons, List.length_cons]
    omega
theorem len_laid (l : List Cl) : (laidR l).length ≤ l.length := by
  have := len_fold l []
  simpa [laidR] using this
set_option maxHeartbeats 8000000 in
theorem laid_any {w : World} {v : Value} {l : List Cl} (hl : RdC w v l) (hlen : l.length ≤ 140737488355328) (hk : ∀ c ∈ l, (-9223372036854775808 ≤ c.kind ∧ c.kind ≤ 9223372036854775807) ∧ c.key.size ≤ 140737488351232) :
    Calls Tryz.prog 6 #[v] w fun e w' => ∃ ta tb, e = .returned (.tuple #[.pointer (some ⟨ta, 0, none⟩), .pointer (some ⟨tb, 0, none⟩)]) ∧ TwoAt w.heap.size ta tb (laidR (l.take 100)) w' ∧ Gr w w' := by
  obtain ⟨q, c, rfl⟩ := hl.form
  have HL := Lib.hid hl
  have HK := Lib.hid hk
  have hlenv := fun W ty => len_cls (w := W) (q := q) (n := l.length) (c := c) (ty := ty)
  clear hl hk
  go_enter Tryz.func6, Tryz.ntmps6
  go_wp2_with fail
  refine (new_tab 1 w).mono ?_
  rintro e w1 ⟨ta, rfl, h1, hg1⟩
  have HA := Lib.hid h1
  have HG1 := Lib.hid hg1
  clear h1 hg1
  go_wp2_with fail
  refine (new10 1 w1).mono ?_
  rintro e w2 ⟨tb, rfl, h2, hg2⟩
  have HT0 := Lib.hid (two_new HA.out HG1.out h2 hg2)
  have HG0 := Lib.hid (HG1.out.trans hg2)
  clear HA HG1 h2 hg2
  go_wp2
  go_loopw [6] (fun iv wr => ∃ k : Nat, iv = .int .i64 k ∧ k ≤ l.length ∧ k ≤ 100 ∧ Hid (TwoAt w.heap.size ta tb (laidR (l.take k)) wr) ∧ Hid (Gr w wr)) (fun iv _ => l.length - (intOf iv).toNat)
  case atStart => exact ⟨0, rfl, Nat.zero_le _, by omega, HT0, HG0⟩
  case round =>
    obtain ⟨k, rfl, hk1, hk2, HT, HG⟩ := hrel
    clear HT0 HG0
    by_cases hkl : k < l.length
    · by_cases hkh : k < 100
      · obtain ⟨bk, of, cp, e1, q1, q2, c0, c1, c2, c3, c4, c5⟩ := (HL.out.gr HG.out).at hkl
        cases e1
        unfold maxLen at q2
        have HS1 := Lib.hid (laidR_snoc hkl)
        have HLn : Hid ((laidR (l.take k)).length ≤ 1000000) := Lib.hid (by have := len_laid (l.take k); rw [List.length_take] at this; omega)
        have HVK := Lib.hid (refVersionKey_any l[k].key l[k].wall l[k].tick)
        have HV1 := Lib.hid (refVersion_any l[k].val true)
        have HV0 : Hid (∀ w, Calls Tryz.prog 21 #[.string ⟨#[]⟩, .bool false] w fun e w' => e = .returned (.tuple #[.string ⟨(versionW [] false).toArray⟩, .int .i64 (versionE [] false)]) ∧ Gr w w') := Lib.hid (refVersion_any ⟨#[]⟩ false)
        have HBr := Lib.hid (bring_any l[k].kind 6 (HK.out _ (List.getElem_mem hkl)).1 (by omega))
        have hks := (HK.out _ (List.getElem_mem hkl)).2
        have HIK := Lib.hid (refIntentKey_any l[k].key)
        cases hgo : l[k].gone with
        | true =>
          have hop : laidOp l[k] = if bringI l[k].kind 6 = 4 then (if (intentKeyR l[k].key.data.toList).2 = 0 then some ⟨ofL (intentKeyR l[k].key.data.toList).1, l[k].val, false⟩ else none)
            else if bringI l[k].kind 6 = 5 then some ⟨vK ++ l[k].key, l[k].val, false⟩
            else if (versionKeyR l[k].key.data.toList l[k].wall l[k].tick).2 = 0 ∧ versionE [] false = 0 then some ⟨ofL (versionKeyR l[k].key.data.toList l[k].wall l[k].tick).1, ofL (versionW [] false), false⟩
            else none := by unfold laidOp verOf; rw [hgo]; rfl
          have HOp := Lib.hid hop
          rw [hgo] at c4
          clear hop hgo
          generalize versionKeyR l[k].key.data.toList l[k].wall l[k].tick = vk at *
          obtain ⟨vkl, vke⟩ := vk
          generalize intentKeyR l[k].key.data.toList = ik at *
          obtain ⟨ikl, ike⟩ := ik
          generalize bringI l[k].kind 6 = br at *
          generalize versionW [] false = vw at *
          generalize versionE [] false = ve at *
          go_wp2_with fail
          refine (HVK.out _).mono ?_
          rintro e w1 ⟨rfl, hg1⟩
          have HGa := Lib.hid (((Gr.refl wr).alloc _).trans hg1)
          have HBa := Lib.hid (hg1.blk (heap_alloc_new wr _))
          clear hg1
          obtain ⟨k_0, k_1, k_2, k_3, k_4, k_5, _, _, _, _, _, _, _⟩ := blk6 HBa.out
          go_wp2_with fail
          refine (HV1.out _).mono ?_
          rintro e w2 ⟨rfl, hg2⟩
          have HGb := Lib.hid (HGa.out.trans hg2)
          have HBb := Lib.hid (hg2.blk HBa.out)
          clear hg2 k_0 k_1 k_2 k_3 k_4 k_5
          obtain ⟨k_0, k_1, k_2, k_3, k_4, k_5, _, _, _, _, _, _, _⟩ := blk6 HBb.out
          go_wp2_with fail
          refine (HV0.out _).mono ?_
          rintro e w3 ⟨rfl, hg3⟩
          have HGp := Lib.hid (HGb.out.trans hg3)
          have HBp := Lib.hid (hg3.blk HBb.out)
          clear hg3 k_0 k_1 k_2 k_3 k_4 k_5
          obtain ⟨k_0, k_1, k_2, k_3, k_4, k_5, _, _, _, _, _, _, _⟩ := blk6 HBp.out
          go_wp2_with fail
          refine (HBr.out _).mono ?_
          rintro e w4 ⟨rfl, rfl⟩
          by_cases h4 : br = 4
          · subst h4
            have HOp4 : Hid (laidOp l[k] = if ike = 0 then some ⟨ofL ikl, l[k].val, false⟩ else none) := Lib.hid (by rw [HOp.out, if_pos rfl])
            clear HOp
            go_wp2_with fail
            refine (HIK.out _).mono ?_
            rintro e wq ⟨rfl, hg3⟩
            have HGq := Lib.hid (HGp.out.trans hg3)
            have HBq := Lib.hid (hg3.blk HBp.out)
            clear hg3 k_0 k_1 k_2 k_3 k_4 k_5
            obtain ⟨k_0, k_1, k_2, k_3, k_4, k_5, _, _, _, _, _, _, _⟩ := blk6 HBq.out
            by_cases hz : ike = 0
            · subst hz
              have HYes : Hid (laidOp l[k] = some ⟨ofL ikl, l[k].val, false⟩) := Lib.hid (by rw [HOp4.out, if_pos rfl])
              go_wp2_with fail
              refine (put_a (HT.out.gr (HGq.out.alloc _)) rfl ((HG.out.trans HGq.out).alloc _) HLn.out (heap_alloc_new _ _)).mono ?_
              rintro e w5 ⟨rfl, hh, hg5, hb5⟩
              have HH5 := Lib.hid hh
              have HG5 := Lib.hid hg5
              have HB5 := Lib.hid hb5
              clear hh hg5 hb5
              go_wp2_with fail
              refine (put_b HH5.out rfl HG5.out HLn.out HB5.out rfl).mono ?_
              rintro e w6 ⟨rfl, ht, hg6⟩
              have HTw := Lib.hid ht
              have HGw := Lib.hid hg6
              have HRow : Hid (laidRow (laidR (l.take k)) l[k] = _) := Lib.hid (by unfold laidRow; rw [HYes.out])
              clear ht hg6
              go_wp2
              go_roundw
              case rel => exact ⟨k + 1, by go_num, by omega, by omega, Lib.hid (by rw [HS1.out, HRow.out]; exact HTw.out), HGw⟩
              case measure => simp [intOf]; omega
            · have hzf : (ike == 0) = false := by simpa using hz
              have HNo : Hid (laidOp l[k] = none) := Lib.hid (by rw [HOp4.out, if_neg hz])
              have HTw := Lib.hid (HT.out.gr HGq.out)
              have HGw := Lib.hid (HG.out.trans HGq.out)
              have HRow : Hid (laidRow (laidR (l.take k)) l[k] = laidR (l.take k)) := Lib.hid (by unfold laidRow; rw [HNo.out])
              go_wp2
              go_roundw
              case rel => exact ⟨k + 1, by go_num, by omega, by omega, Lib.hid (by rw [HS1.out, HRow.out]; exact HTw.out), HGw⟩
              case measure => simp [intOf]; omega
          · have h4f : (br == 4) = false := by simpa using h4
            have HGq := HGp
            by_cases h5 : br = 5
            · subst h5
              have HYes : Hid (laidOp l[k] = some ⟨vK ++ l[k].key, l[k].val, false⟩) := Lib.hid (by rw [HOp.out, if_neg h4, if_pos rfl])
              clear HOp
              go_wp2_with fail
              refine (put_a (HT.out.gr (HGq.out.alloc _)) rfl ((HG.out.trans HGq.out).alloc _) HLn.out (heap_alloc_new _ _)).mono ?_
              rintro e w5 ⟨rfl, hh, hg5, hb5⟩
              have HH5 := Lib.hid hh
              have HG5 := Lib.hid hg5
              have HB5 := Lib.hid hb5
              clear hh hg5 hb5
              go_wp2_with fail
              refine (put_b HH5.out rfl HG5.out HLn.out HB5.out rfl).mono ?_
              rintro e w6 ⟨rfl, ht, hg6⟩
              have HTw := Lib.hid ht
              have HGw := Lib.hid hg6
              have HRow : Hid (laidRow (laidR (l.take k)) l[k] = _) := Lib.hid (by unfold laidRow; rw [HYes.out])
              clear ht hg6
              go_wp2
              go_roundw
              case rel => exact ⟨k + 1, by go_num, by omega, by omega, Lib.hid (by rw [HS1.out, HRow.out]; exact HTw.out), HGw⟩
              case measure => simp [intOf]; omega
            · have h5f : (br == 5) = false := by simpa using h5
              have HOp5 : Hid (laidOp l[k] = if vke = 0 ∧ ve = 0 then some ⟨ofL vkl, ofL vw, false⟩ else none) := Lib.hid (by rw [HOp.out, if_neg h4, if_neg h5])
              clear HOp
              by_cases hz : vke = 0
              · subst hz
                by_cases hy : ve = 0
                · subst hy
                  have HYes : Hid (laidOp l[k] = some ⟨ofL vkl, ofL vw, false⟩) := Lib.hid (by rw [HOp5.out, if_pos ⟨rfl, rfl⟩])
                  go_wp2_with fail
                  refine (put_a (HT.out.gr (HGq.out.alloc _)) rfl ((HG.out.trans HGq.out).alloc _) HLn.out (heap_alloc_new _ _)).mono ?_
                  rintro e w5 ⟨rfl, hh, hg5, hb5⟩
                  have HH5 := Lib.hid hh
                  have HG5 := Lib.hid hg5
                  have HB5 := Lib.hid hb5
                  clear hh hg5 hb5
                  go_wp2_with fail
                  refine (put_b HH5.out rfl HG5.out HLn.out HB5.out rfl).mono ?_
                  rintro e w6 ⟨rfl, ht, hg6⟩
                  have HTw := Lib.hid ht
                  have HGw := Lib.hid hg6
                  have HRow : Hid (laidRow (laidR (l.take k)) l[k] = _) := Lib.hid (by unfold laidRow; rw [HYes.out])
                  clear ht hg6
                  go_wp2
                  go_roundw
                  case rel => exact ⟨k + 1, by go_num, by omega, by omega, Lib.hid (by rw [HS1.out, HRow.out]; exact HTw.out), HGw⟩
                  case measure => simp [intOf]; omega
                · have hyf : (ve == 0) = false := by simpa using hy
                  have HNo : Hid (laidOp l[k] = none) := Lib.hid (by rw [HOp5.out, if_neg (fun h => hy h.2)])
                  have HTw := Lib.hid (HT.out.gr HGq.out)
                  have HGw := Lib.hid (HG.out.trans HGq.out)
                  have HRow : Hid (laidRow (laidR (l.take k)) l[k] = laidR (l.take k)) := Lib.hid (by unfold laidRow; rw [HNo.out])
                  go_wp2
                  go_roundw
                  case rel => exact ⟨k + 1, by go_num, by omega, by omega, Lib.hid (by rw [HS1.out, HRow.out]; exact HTw.out), HGw⟩
                  case measure => simp [intOf]; omega
              · have hzf : (vke == 0) = false := by simpa using hz
                have HNo : Hid (laidOp l[k] = none) := Lib.hid (by rw [HOp5.out, if_neg (fun h => hz h.1)])
                have HTw := Lib.hid (HT.out.gr HGq.out)
                have HGw := Lib.hid (HG.out.trans HGq.out)
                have HRow : Hid (laidRow (laidR (l.take k)) l[k] = laidR (l.take k)) := Lib.hid (by unfold laidRow; rw [HNo.out])
                go_wp2
                go_roundw
                case rel => exact ⟨k + 1, by go_num, by omega, by omega, Lib.hid (by rw [HS1.out, HRow.out]; exact HTw.out), HGw⟩
                case measure => simp [intOf]; omega
        | false =>
          have hop : laidOp l[k] = if bringI l[k].kind 6 = 4 then (if (intentKeyR l[k].key.data.toList).2 = 0 then some ⟨ofL (intentKeyR l[k].key.data.toList).1, l[k].val, false⟩ else none)
            else if bringI l[k].kind 6 = 5 then some ⟨vK ++ l[k].key, l[k].val, false⟩
            else if (versionKeyR l[k].key.data.toList l[k].wall l[k].tick).2 = 0 ∧ versionE l[k].val.data.toList true = 0 then some ⟨ofL (versionKeyR l[k].key.data.toList l[k].wall l[k].tick).1, ofL (versionW l[k].val.data.toList true), false⟩
            else none := by unfold laidOp verOf; rw [hgo]; rfl
          have HOp := Lib.hid hop
          rw [hgo] at c4
          clear hop hgo HV0
          generalize versionKeyR l[k].key.data.toList l[k].wall l[k].tick = vk at *
          obtain ⟨vkl, vke⟩ := vk
          generalize intentKeyR l[k].key.data.toList = ik at *
          obtain ⟨ikl, ike⟩ := ik
          generalize bringI l[k].kind 6 = br at *
          generalize versionW l[k].val.data.toList true = vw at *
          generalize versionE l[k].val.data.toList true = ve at *
          go_wp2_with fail
          refine (HVK.out _).mono ?_
          rintro e w1 ⟨rfl, hg1⟩
          have HGa := Lib.hid (((Gr.refl wr).alloc _).trans hg1)
          have HBa := Lib.hid (hg1.blk (heap_alloc_new wr _))
          clear hg1
          obtain ⟨k_0, k_1, k_2, k_3, k_4, k_5, _, _, _, _, _, _, _⟩ := blk6 HBa.out
          go_wp2_with fail
          refine (HV1.out _).mono ?_
          rintro e w3 ⟨rfl, hg2⟩
          have HGp := Lib.hid (HGa.out.trans hg2)
          have HBp := Lib.hid (hg2.blk HBa.out)
          clear hg2 k_0 k_1 k_2 k_3 k_4 k_5
          obtain ⟨k_0, k_1, k_2, k_3, k_4, k_5, _, _, _, _, _, _, _⟩ := blk6 HBp.out
          go_wp2_with fail
          refine (HBr.out _).mono ?_
          rintro e w4 ⟨rfl, rfl⟩
          by_cases h4 : br = 4
          · subst h4
            have HOp4 : Hid (laidOp l[k] = if ike = 0 then some ⟨ofL ikl, l[k].val, false⟩ else none) := Lib.hid (by rw [HOp.out, if_pos rfl])
            clear HOp
            go_wp2_with fail
            refine (HIK.out _).mono ?_
            rintro e wq ⟨rfl, hg3⟩
            have HGq := Lib.hid (HGp.out.trans hg3)
            have HBq := Lib.hid (hg3.blk HBp.out)
            clear hg3 k_0 k_1 k_2 k_3 k_4 k_5
            obtain ⟨k_0, k_1, k_2, k_3, k_4, k_5, _, _, _, _, _, _, _⟩ := blk6 HBq.out
            by_cases hz : ike = 0
            · subst hz
              have HYes : Hid (laidOp l[k] = some ⟨ofL ikl, l[k].val, false⟩) := Lib.hid (by rw [HOp4.out, if_pos rfl])
              go_wp2_with fail
              refine (put_a (HT.out.gr (HGq.out.alloc _)) rfl ((HG.out.trans HGq.out).alloc _) HLn.out (heap_alloc_new _ _)).mono ?_
              rintro e w5 ⟨rfl, hh, hg5, hb5⟩
              have HH5 := Lib.hid hh
              have HG5 := Lib.hid hg5
              have HB5 := Lib.hid hb5
              clear hh hg5 hb5
              go_wp2_with fail
              refine (put_b HH5.out rfl HG5.out HLn.out HB5.out rfl).mono ?_
              rintro e w6 ⟨rfl, ht, hg6⟩
              have HTw := Lib.hid ht
              have HGw := Lib.hid hg6
              have HRow : Hid (laidRow (laidR (l.take k)) l[k] = _) := Lib.hid (by unfold laidRow; rw [HYes.out])
              clear ht hg6
              go_wp2
              go_roundw
              case rel => exact ⟨k + 1, by go_num, by omega, by omega, Lib.hid (by rw [HS1.out, HRow.out]; exact HTw.out), HGw⟩
              case measure => simp [intOf]; omega
            · have hzf : (ike == 0) = false := by simpa using hz
              have HNo : Hid (laidOp l[k] = none) := Lib.hid (by rw [HOp4.out, if_neg hz])
              have HTw := Lib.hid (HT.out.gr HGq.out)
              have HGw := Lib.hid (HG.out.trans HGq.out)
              have HRow : Hid (laidRow (laidR (l.take k)) l[k] = laidR (l.take k)) := Lib.hid (by unfold laidRow; rw [HNo.out])
              go_wp2
              go_roundw
              case rel => exact ⟨k + 1, by go_num, by omega, by omega, Lib.hid (by rw [HS1.out, HRow.out]; exact HTw.out), HGw⟩
              case measure => simp [intOf]; omega
          · have h4f : (br == 4) = false := by simpa using h4
            have HGq := HGp
            by_cases h5 : br = 5
            · subst h5
              have HYes : Hid (laidOp l[k] = some ⟨vK ++ l[k].key, l[k].val, false⟩) := Lib.hid (by rw [HOp.out, if_neg h4, if_pos rfl])
              clear HOp
              go_wp2_with fail
              refine (put_a (HT.out.gr (HGq.out.alloc _)) rfl ((HG.out.trans HGq.out).alloc _) HLn.out (heap_alloc_new _ _)).mono ?_
              rintro e w5 ⟨rfl, hh, hg5, hb5⟩
              have HH5 := Lib.hid hh
              have HG5 := Lib.hid hg5
              have HB5 := Lib.hid hb5
              clear hh hg5 hb5
              go_wp2_with fail
              refine (put_b HH5.out rfl HG5.out HLn.out HB5.out rfl).mono ?_
              rintro e w6 ⟨rfl, ht, hg6⟩
              have HTw := Lib.hid ht
              have HGw := Lib.hid hg6
              have HRow : Hid (laidRow (laidR (l.take k)) l[k] = _) := Lib.hid (by unfold laidRow; rw [HYes.out])
              clear ht hg6
              go_wp2
              go_roundw
              case rel => exact ⟨k + 1, by go_num, by omega, by omega, Lib.hid (by rw [HS1.out, HRow.out]; exact HTw.out), HGw⟩
              case measure => simp [intOf]; omega
            · have h5f : (br == 5) = false := by simpa using h5
              have HOp5 : Hid (laidOp l[k] = if vke = 0 ∧ ve = 0 then some ⟨ofL vkl, ofL vw, false⟩ else none) := Lib.hid (by rw [HOp.out, if_neg h4, if_neg h5])
              clear HOp
              by_cases hz : vke = 0
              · subst hz
                by_cases hy : ve = 0
                · subst hy
                  have HYes : Hid (laidOp l[k] = some ⟨ofL vkl, ofL vw, false⟩) := Lib.hid (by rw [HOp5.out, if_pos ⟨rfl, rfl⟩])
                  go_wp2_with fail
                  refine (put_a (HT.out.gr (HGq.out.alloc _)) rfl ((HG.out.trans HGq.out).alloc _) HLn.out (heap_alloc_new _ _)).mono ?_
                  rintro e w5 ⟨rfl, hh, hg5, hb5⟩
                  have HH5 := Lib.hid hh
                  have HG5 := Lib.hid hg5
                  have HB5 := Lib.hid hb5
                  clear hh hg5 hb5
                  go_wp2_with fail
                  refine (put_b HH5.out rfl HG5.out HLn.out HB5.out rfl).mono ?_
                  rintro e w6 ⟨rfl, ht, hg6⟩
                  have HTw := Lib.hid ht
                  have HGw := Lib.hid hg6
                  have HRow : Hid (laidRow (laidR (l.take k)) l[k] = _) := Lib.hid (by unfold laidRow; rw [HYes.out])
                  clear ht hg6
                  go_wp2
                  go_roundw
                  case rel => exact ⟨k + 1, by go_num, by omega, by omega, Lib.hid (by rw [HS1.out, HRow.out]; exact HTw.out), HGw⟩
                  case measure => simp [intOf]; omega
                · have hyf : (ve == 0) = false := by simpa using hy
                  have HNo : Hid (laidOp l[k] = none) := Lib.hid (by rw [HOp5.out, if_neg (fun h => hy h.2)])
                  have HTw := Lib.hid (HT.out.gr HGq.out)
                  have HGw := Lib.hid (HG.out.trans HGq.out)
                  have HRow : Hid (laidRow (laidR (l.take k)) l[k] = laidR (l.take k)) := Lib.hid (by unfold laidRow; rw [HNo.out])
                  go_wp2
                  go_roundw
                  case rel => exact ⟨k + 1, by go_num, by omega, by omega, Lib.hid (by rw [HS1.out, HRow.out]; exact HTw.out), HGw⟩
                  case measure => simp [intOf]; omega
              · have hzf : (vke == 0) = false := by simpa using hz
                have HNo : Hid (laidOp l[k] = none) := Lib.hid (by rw [HOp5.out, if_neg (fun h => hz h.1)])
                have HTw := Lib.hid (HT.out.gr HGq.out)
                have HGw := Lib.hid (HG.out.trans HGq.out)
                have HRow : Hid (laidRow (laidR (l.take k)) l[k] = laidR (l.take k)) := Lib.hid (by unfold laidRow; rw [HNo.out])
                go_wp2
                go_roundw
                case rel => exact ⟨k + 1, by go_num, by omega, by omega, Lib.hid (by rw [HS1.out, HRow.out]; exact HTw.out), HGw⟩
                case measure => simp [intOf]; omega
      · obtain rfl : k = 100 := by omega
        go_wp2
        go_ret2
        exact ⟨ta, tb, rfl, HT.out, HG.out⟩
    · obtain rfl : k = l.length := by omega
      go_wp2
      go_ret2
      exact ⟨ta, tb, rfl, by have := HT.out; rw [List.take_length] at this; rw [List.take_of_length_le hk2]; exact this, HG.out⟩
end Go.Proofs.YtocijpeminghoaaGreatDoor
