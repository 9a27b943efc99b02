/- Layer 7: does: a deed is done. -/
import Derived.Test.YtadbcikabpbogaaDskY
import Derived.Test.YtadbcikabpbogaaDskZ
namespace Go.Proofs.Ytadbcikabpbogaa
open Go.RowKit Go.Maps
set_option maxRecDepth 100000
set_option linter.unusedVariables false
set_option linter.unusedSimpArgs false

structure Deed where
  kind : Int
  name : ByteArray
  dst : ByteArray
  b : List UInt8
  n : Int
  at_ : Int
  keep : List Int
abbrev I64 (z : Int) : Prop := -9223372036854775808 ≤ z ∧ z ≤ 9223372036854775807
abbrev deedV (x : Deed) (bv kv : Value) : List Value := [.int .i64 x.kind, .string x.name, .string x.dst, bv, .int .i64 x.n, .int .i64 x.at_, kv]
structure DeedOk (x : Deed) : Prop where
  kind : I64 x.kind
  name : x.name.size ≤ maxLen
  dst : x.dst.size ≤ maxLen
  b : x.b.length ≤ 140737488355328
  n : I64 x.n
  at_ : I64 x.at_
  keep : ∀ z ∈ x.keep, I64 z
def DS.does (st : DS) (x : Deed) : Int × DS :=
  if bringI x.kind 12 ≤ 2 then st.append x.name.data.toList x.b
  else if bringI x.kind 12 ≤ 4 then st.sync x.name.data.toList
  else if bringI x.kind 12 = 5 then st.cut x.name.data.toList x.n
  else if bringI x.kind 12 = 6 then st.rename x.name.data.toList x.dst.data.toList
  else if bringI x.kind 12 = 7 then st.remove x.name.data.toList
  else if bringI x.kind 12 = 8 then (0, st.crash x.keep)
  else if bringI x.kind 12 = 9 then (0, st.fail x.n x.keep)
  else if bringI x.kind 12 = 10 then (0, st.boot)
  else st.turn x.name.data.toList x.n x.at_
section
variable {D N : Nat} {O : Nat → Prop} {st : DS} {w w1 : World}
theorem turn_dko (h : DKO D N O st w) (hg : Gr w w1) (hO : ∀ k, O k → k < w1.heap.size) (s : ByteArray) (hs : s.size ≤ maxLen) (n b : Int) :
    Calls Try.prog 34 #[.pointer (some ⟨D, 0, none⟩), .string s, .int .i64 n, .int .i64 b] w1 fun e w' => e = .returned (.int .i64 (st.turn s.data.toList n b).1) ∧ DKO D N O (st.turn s.data.toList n b).2 w' ∧ FrO N O w1 w' := by
  have hN := Nat.le_trans h.lt hg.size
  obtain ⟨S, L, M, kv, h1, h2⟩ := h
  refine (turn_any (h1.gr hg) s hs n b).mono ?_
  intro e w' ha
  exact ha.dko (fun k hk => ⟨(h2 k hk).1, Nat.lt_of_lt_of_le (h2 k hk).2 hg.size⟩) hN hO
theorem DKO.rise (h : DKO D N O st w) : Rise DF.nm st.fs := by
  obtain ⟨S, L, M, kv, h1, h2⟩ := h
  exact h1.rise
theorem DKO.bd (h : DKO D N O st w) : st.fs.length ≤ 20 ∧ allF st.fs ≤ 4194304 := by
  obtain ⟨S, L, M, kv, h1, h2⟩ := h
  exact ⟨h1.many, h1.all⟩
end
set_option maxHeartbeats 8000000 in
theorem does_dko {D N : Nat} {O : Nat → Prop} {st : DS} {w w1 : World} (h : DKO D N O st w) (hg : Gr w w1) (hO : ∀ k, O k → k < w1.heap.size) (x : Deed) (hx : DeedOk x) {bv kv : Value} (hb : Rd w1 bv x.b) (hk : RdI w1 kv x.keep)
    (hbv : ∀ g, bv.ownBlock = some g → x.b ≠ [] → g < N ∨ O g ∨ w.heap.size ≤ g) (hkv : ∀ g, kv.ownBlock = some g → x.keep ≠ [] → g < N ∨ O g ∨ w.heap.size ≤ g) (h8 : bringI x.kind 12 = 9 → x.keep.length * 8 ≤ 140737488355328) :
    Calls Try.prog 25 #[.pointer (some ⟨D, 0, none⟩), .agg (deedV x bv kv).toArray] w1 fun e w' => e = .returned (.int .i64 (st.does x).1) ∧ DKO D N O (st.does x).2 w' ∧ FrO N O w1 w' := by
  have H := Lib.hid h
  have HGr := Lib.hid hg
  have HX := Lib.hid hx
  have HBv := Lib.hid hb
  have HKv := Lib.hid hk
  have HO := Lib.hid hO
  have Hbv := Lib.hid hbv
  have Hkv := Lib.hid hkv
  have H8 := Lib.hid h8
  have HBr := Lib.hid (bring_any x.kind 12 hx.kind (by decide))
  have hbd := bring_bd x.kind (n := 12) (by decide)
  have HD : Hid (∀ z, bringI x.kind 12 = z → st.does x = _) := Lib.hid (fun z hz => by unfold DS.does; rw [hz])
  obtain ⟨bq, bn, bc, rfl⟩ := hb.slice'
  obtain ⟨kq, kc, rfl⟩ := hk.form
  have hO' : Hid (∀ o : Obj, ∀ k, O k → k < (w1.alloc o).heap.size) := Lib.hid (fun o k hk => by have := hO k hk; simp; omega)
  clear h hg hx hb hk hO hbv hkv h8
  obtain hz | hz | hz | hz | hz | hz | hz | hz | hz | hz | hz | hz : bringI x.kind 12 = 0 ∨ bringI x.kind 12 = 1 ∨ bringI x.kind 12 = 2 ∨ bringI x.kind 12 = 3 ∨ bringI x.kind 12 = 4 ∨ bringI x.kind 12 = 5 ∨ bringI x.kind 12 = 6 ∨ bringI x.kind 12 = 7 ∨ bringI x.kind 12 = 8 ∨ bringI x.kind 12 = 9 ∨ bringI x.kind 12 = 10 ∨ bringI x.kind 12 = 11 := by omega
  all_goals rw [HD.out _ hz]; rw [hz] at HBr
  all_goals clear HD hbd
  -- A
  iterate 3
    · simp only [Int.reduceLE, if_true]
      clear hz
      go_enter Try.func25, Try.ntmps25
      go_wp2_with (go_at_call 11; refine (HBr.out _).mono ?_; rintro e w3 ⟨rfl, rfl⟩)
      refine (append_dko H.out (HGr.out.alloc _) (hO'.out _) x.name HX.out.name (HBv.out.gr ((Gr.refl w1).alloc _)) HX.out.b Hbv.out).mono ?_
      rintro e w5 ⟨rfl, hd, hf⟩
      go_wp2
      go_ret
      exact ⟨rfl, hd, Fr.trans (Fr.gr ((Gr.refl w1).alloc _) (fun k => N ≤ k ∧ ¬ O k)) hf (fun k h _ => h)⟩
  iterate 2
    · simp only [Int.reduceLE, if_true, if_false]
      clear hz
      go_enter Try.func25, Try.ntmps25
      go_wp2_with (go_at_call 11; refine (HBr.out _).mono ?_; rintro e w3 ⟨rfl, rfl⟩)
      refine (sync_dko H.out (HGr.out.alloc _) (hO'.out _) x.name HX.out.name).mono ?_
      rintro e w5 ⟨rfl, hd, hf⟩
      go_wp2
      go_ret
      exact ⟨rfl, hd, Fr.trans (Fr.gr ((Gr.refl w1).alloc _) (fun k => N ≤ k ∧ ¬ O k)) hf (fun k h _ => h)⟩
  · simp only [Int.reduceLE, if_true, if_false]
    clear hz
    go_enter Try.func25, Try.ntmps25
    go_wp2_with (go_at_call 11; refine (HBr.out _).mono ?_; rintro e w3 ⟨rfl, rfl⟩)
    refine (cut_dko H.out (HGr.out.alloc _) (hO'.out _) x.name HX.out.name x.n HX.out.n).mono ?_
    rintro e w5 ⟨rfl, hd, hf⟩
    go_wp2
    go_ret
    exact ⟨rfl, hd, Fr.trans (Fr.gr ((Gr.refl w1).alloc _) (fun k => N ≤ k ∧ ¬ O k)) hf (fun k h _ => h)⟩
  · simp only [Int.reduceLE, Int.reduceEq, if_true, if_false]
    clear hz
    go_enter Try.func25, Try.ntmps25
    go_wp2_with (go_at_call 11; refine (HBr.out _).mono ?_; rintro e w3 ⟨rfl, rfl⟩)
    refine (rename_dko H.out (HGr.out.alloc _) (hO'.out _) x.name x.dst HX.out.name HX.out.dst).mono ?_
    rintro e w5 ⟨rfl, hd, hf⟩
    go_wp2
    go_ret
    exact ⟨rfl, hd, Fr.trans (Fr.gr ((Gr.refl w1).alloc _) (fun k => N ≤ k ∧ ¬ O k)) hf (fun k h _ => h)⟩
  · simp only [Int.reduceLE, Int.reduceEq, if_true, if_false]
    clear hz
    go_enter Try.func25, Try.ntmps25
    go_wp2_with (go_at_call 11; refine (HBr.out _).mono ?_; rintro e w3 ⟨rfl, rfl⟩)
    refine (remove_dko H.out (HGr.out.alloc _) (hO'.out _) x.name HX.out.name).mono ?_
    rintro e w5 ⟨rfl, hd, hf⟩
    go_wp2
    go_ret
    exact ⟨rfl, hd, Fr.trans (Fr.gr ((Gr.refl w1).alloc _) (fun k => N ≤ k ∧ ¬ O k)) hf (fun k h _ => h)⟩
  · simp only [Int.reduceLE, Int.reduceEq, if_true, if_false]
    clear hz
    go_enter Try.func25, Try.ntmps25
    go_wp2_with (go_at_call 11; refine (HBr.out _).mono ?_; rintro e w3 ⟨rfl, rfl⟩)
    refine (crash_dko H.out (HGr.out.alloc _) (hO'.out _) (HKv.out.gr' ((Gr.refl w1).alloc _)) HX.out.keep Hkv.out).mono ?_
    rintro e w5 ⟨rfl, hd, hf⟩
    go_wp2
    go_ret
    exact ⟨rfl, hd, Fr.trans (Fr.gr ((Gr.refl w1).alloc _) (fun k => N ≤ k ∧ ¬ O k)) hf (fun k h _ => h)⟩
  · have hk8 := H8.out hz
    simp only [Int.reduceLE, Int.reduceEq, if_true, if_false]
    clear hz
    go_enter Try.func25, Try.ntmps25
    go_wp2_with (go_at_call 11; refine (HBr.out _).mono ?_; rintro e w3 ⟨rfl, rfl⟩)
    refine (fail_dko H.out (HGr.out.alloc _) (hO'.out _) x.n HX.out.n (HKv.out.gr' ((Gr.refl w1).alloc _)) hk8 HX.out.keep).mono ?_
    rintro e w5 ⟨rfl, hd, hf⟩
    go_wp2
    go_ret
    exact ⟨rfl, hd, Fr.trans (Fr.gr ((Gr.refl w1).alloc _) (fun k => N ≤ k ∧ ¬ O k)) hf (fun k h _ => h)⟩
  · simp only [Int.reduceLE, Int.reduceEq, if_true, if_false]
    clear hz
    go_enter Try.func25, Try.ntmps25
    go_wp2_with (go_at_call 11; refine (HBr.out _).mono ?_; rintro e w3 ⟨rfl, rfl⟩)
    refine (boot_dko H.out (HGr.out.alloc _) (hO'.out _)).mono ?_
    rintro e w5 ⟨rfl, hd, hf⟩
    go_wp2
    go_ret
    exact ⟨rfl, hd, Fr.trans (Fr.gr ((Gr.refl w1).alloc _) (fun k => N ≤ k ∧ ¬ O k)) hf (fun k h _ => h)⟩
  · simp only [Int.reduceLE, Int.reduceEq, if_true, if_false]
    clear hz
    go_enter Try.func25, Try.ntmps25
    go_wp2_with (go_at_call 11; refine (HBr.out _).mono ?_; rintro e w3 ⟨rfl, rfl⟩)
    refine (turn_dko H.out (HGr.out.alloc _) (hO'.out _) x.name HX.out.name x.n x.at_).mono ?_
    rintro e w5 ⟨rfl, hd, hf⟩
    go_wp2
    go_ret
    exact ⟨rfl, hd, Fr.trans (Fr.gr ((Gr.refl w1).alloc _) (fun k => N ≤ k ∧ ¬ O k)) hf (fun k h _ => h)⟩
end Go.Proofs.Ytadbcikabpbogaa
