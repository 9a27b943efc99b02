/- Layer 7: a disk in memory: its blocks, what of memory may turn; ask, find. -/
import Derived.Test.YtadbcikabpbogaaDskP
import Derived.Test.YtadbcikabpbogaaOwn
import Derived.Maps.OwnSet
import Derived.Maps.OwnOps
import Derived.Sort.KeysCollected
namespace Go.Proofs.Ytadbcikabpbogaa
open Go.RowKit Go.Maps
set_option maxRecDepth 100000
set_option linter.unusedVariables false
set_option linter.unusedSimpArgs false

/-- what is in S may turn, all else stays -/
structure Fr (S : Nat → Prop) (w w' : World) : Prop where
  os : w'.os = w.os
  tape : w'.tape = w.tape
  output : w'.output = w.output
  size : w.heap.size ≤ w'.heap.size
  blk : ∀ k o, w.heap[k]? = some o → ¬ S k → w'.heap[k]? = some o
theorem Fr.refl (S : Nat → Prop) (w : World) : Fr S w w := ⟨rfl, rfl, rfl, Nat.le_refl _, fun _ _ h _ => h⟩
theorem Fr.trans {S S' : Nat → Prop} {a b c : World} (h : Fr S a b) (k : Fr S' b c) (hS : ∀ k, S' k → k < a.heap.size → S k) : Fr S a c :=
  ⟨k.os.trans h.os, k.tape.trans h.tape, k.output.trans h.output, Nat.le_trans h.size k.size, fun i o ho hn => k.blk i o (h.blk i o ho hn) (fun hs => hn (hS i hs (Array.getElem?_eq_some_iff.1 ho).1))⟩
theorem Fr.gr {a b : World} (h : Gr a b) (S : Nat → Prop) : Fr S a b := ⟨h.b.os, h.b.tape, h.b.output, h.b.size, fun i o ho _ => h.blk ho⟩
theorem Fr.set {S : Nat → Prop} (a : World) {p : Addr} (hS : S p.block) (u : Value) : Fr S a (a.setCell p u) :=
  ⟨rfl, rfl, rfl, by simp, fun k o ho hn => heap_set_other ho _ _ (fun e => hn (e ▸ hS))⟩
theorem Fr.toGr {S : Nat → Prop} {w0 a b : World} (hg : Gr w0 a) (h : Fr S a b) (hS : ∀ k, S k → w0.heap.size ≤ k) : Gr w0 b := by
  refine ⟨⟨h.os.trans hg.b.os, h.tape.trans hg.b.tape, h.output.trans hg.b.output, Nat.le_trans hg.b.size h.size, fun k hk => ?_⟩⟩
  have hk2 : k < w0.heap.size := hk
  rw [← hg.b.block k hk]
  have hka : k < a.heap.size := Nat.lt_of_lt_of_le hk2 hg.b.size
  rw [h.blk k a.heap[k] (Array.getElem?_eq_getElem hka) (fun hs => by have := hS k hs; omega), Array.getElem?_eq_getElem hka]
theorem Fr.grown {S : Nat → Prop} {a b : World} {row : Option Nat} (h : a.grownBy b row) (hr : ∀ k, row = some k → S k) : Fr S a b :=
  ⟨h.os, h.tape, h.output, h.size, fun k o ho hn => by
    rw [h.block k (Array.getElem?_eq_some_iff.1 ho).1 (fun e => hn (hr k e.symm)), ho]⟩
theorem Fr.turned {S : Nat → Prop} {a b : World} {m : Nat} (h : a.mapTurned b m) (hS : S m) : Fr S a b := Fr.grown h.grown (fun k e => by cases e; exact hS)

/-! a map whose elements are pointers -/
def ptrElem (v : Value) : Option (DataW Unit × List MemPlace) :=
  match v with
  | .pointer none => some (.lit (.int .i64 (-1)), [])
  | .pointer (some a) => if a = ⟨a.block, 0, none⟩ then some (.lit (.int .i64 a.block), []) else none
  | _ => none
theorem ptrElem_blk (b : Nat) : ptrElem (.pointer (some ⟨b, 0, none⟩)) = some (.lit (.int .i64 b), []) := by simp [ptrElem]
theorem ptrElem_nil : ptrElem (.pointer none) = some (.lit (.int .i64 (-1)), []) := rfl
theorem ptrElem_inv {v : Value} {d : DataW Unit} {ps : List MemPlace} (h : ptrElem v = some (d, ps)) : (v = .pointer none ∧ d = .lit (.int .i64 (-1))) ∨ ∃ b : Nat, v = .pointer (some ⟨b, 0, none⟩) ∧ d = .lit (.int .i64 (b : Int)) := by
  unfold ptrElem at h
  split at h
  · simp only [Option.some.injEq, Prod.mk.injEq] at h
    exact .inl ⟨rfl, h.1.symm⟩
  · rename_i a
    split at h
    · rename_i ha
      simp only [Option.some.injEq, Prod.mk.injEq] at h
      exact .inr ⟨a.block, by rw [ha], h.1.symm⟩
    · cases h
  · cases h

/-- a file, the block where it lies, the slice of its bytes -/
structure FB where
  f : DF
  blk : Nat
  sv : Value
def FB.nm (x : FB) : List UInt8 := x.f.nm
def mapD (L : List FB) : DataW Unit := .map (L.map fun x => (.string x.f.nm, .lit (.int .i64 (x.blk : Int))))
theorem mapD_size (L : List FB) : Maps.size (mapD L) = L.length := by simp [mapD, Maps.size]
theorem mapD_at (L : List FB) (nm : List UInt8) (zd : DataW Unit) : (mapD L).atKey (.string nm) zd = match getK FB.nm nm L with | some x => .lit (.int .i64 (x.blk : Int)) | none => zd := by
  simp only [mapD, DataW.atKey, List.find?_map]
  have e : ((fun p : Lit × DataW Unit => p.1.sameKey (.string nm)) ∘ fun x : FB => (Lit.string x.f.nm, DataW.lit (.int .i64 (x.blk : Int)))) = fun x : FB => FB.nm x == nm := by
    funext x
    simp [Lit.sameKey, FB.nm]
  rw [e]
  unfold getK
  cases L.find? (fun x => FB.nm x == nm) <;> rfl
theorem mapD_del (L : List FB) (nm : List UInt8) : (mapD L).del (.string nm) = mapD (delK FB.nm nm L) := by
  simp only [mapD, DataW.del, delK, List.filter_map]
  congr 1
theorem mapD_ins (x : FB) : ∀ L : List FB, DataW.insert (.string x.f.nm, .lit (.int .i64 (x.blk : Int))) (L.map fun x => ((.string x.f.nm, .lit (.int .i64 (x.blk : Int))) : Lit × DataW Unit)) = (insK FB.nm x L).map fun x => (.string x.f.nm, .lit (.int .i64 (x.blk : Int)))
  | [] => rfl
  | y :: r => by
    have ih := mapD_ins x r
    cases hb : bytesBefore x.f.nm y.f.nm with
    | true => simp [DataW.insert, insK, Lit.before, FB.nm, hb]
    | false =>
      simp only [List.map_cons, DataW.insert, insK, Lit.before, FB.nm, hb, Bool.false_eq_true, if_false]
      rw [ih]
theorem mapD_put (L : List FB) (x : FB) : (mapD L).put (.string x.f.nm) (.lit (.int .i64 (x.blk : Int))) = mapD (putK FB.nm x L) := by
  have h := mapD_del L x.f.nm
  simp only [mapD, DataW.del, DataW.map.injEq] at h
  simp only [mapD, DataW.put]
  rw [h, mapD_ins]
  rfl
theorem ownsMap_exact {P : Program} {k : TypeId} {R : Value → Option (DataW Unit × List MemPlace)} {w : World} {b n : Nat} {D : DataW Unit} (h : w.ownsMap P k R b n D) : w.ownsMap P k R b (Maps.size D) D := by
  obtain ⟨es, clock, hb, F, hs, hD⟩ := h
  exact ⟨es, clock, hb, F, by rw [hD]; simp [Maps.size, length_sorted], hD⟩

abbrev intC : Int → List Value := fun a => [.int .i64 a]
abbrev RdI (w : World) (v : Value) (l : List Int) : Prop := RdR (RE intC) 1 w v l
structure FileAt (S : Nat → Prop) (x : FB) (w : World) : Prop where
  cell : w.heap[x.blk]? = some (.cells #[x.sv, .int .i64 x.f.mark] 72)
  own : Own w 0 x.sv x.f.b
  mark : x.f.mark ≤ x.f.b.length
  sb : S x.blk
  sg : ∀ g, x.sv.ownBlock = some g → S g
def Apart (x y : FB) : Prop := x.blk ≠ y.blk ∧ ∀ g, x.sv.ownBlock = some g → y.sv.ownBlock ≠ some g
structure DiskAt (D : Nat) (S : Nat → Prop) (st : DS) (L : List FB) (M : Nat) (kv : Value) (w : World) : Prop where
  fs : L.map FB.f = st.fs
  rise : Rise DF.nm st.fs
  cell : w.heap[D]? = some (.cells #[.map (some M), .bool st.dead, .int .i64 st.left, kv] 67)
  map : w.ownsMap Try.prog 9 ptrElem M L.length (mapD L)
  file : ∀ x ∈ L, FileAt S x w
  sep : ∀ x ∈ L, ∀ y ∈ L, x.f.nm ≠ y.f.nm → Apart x y
  keep : RdI w kv st.keep
  keepS : ∀ g, kv.ownBlock = some g → S g ∧ ∃ cs fz, w.heap[g]? = some (.cells cs 3 fz)
  sD : S D
  sM : S M
  names : ∀ f ∈ st.fs, f.nm.length ≤ 40
  many : st.fs.length ≤ 20
  all : allF st.fs ≤ 4194304
  left : -1 ≤ st.left ∧ st.left ≤ 9223372036854775807
  keepB : ∀ x ∈ st.keep, -9223372036854775808 ≤ x ∧ x ≤ 9223372036854775807

theorem FileAt.fr {S S' : Nat → Prop} {x : FB} {w w' : World} (h : FileAt S x w) (hf : Fr S' w w') (hd : ∀ k, S k → ¬ S' k) : FileAt S x w' := by
  refine ⟨hf.blk _ _ h.cell (hd _ h.sb), ⟨h.own.1, ?_⟩, h.mark, h.sb, h.sg⟩
  rcases h.own.2 with h1 | ⟨g, cap, cur, h1, h2, h3, h4⟩
  · exact .inl h1
  · exact .inr ⟨g, cap, cur, h1, h2, hf.blk _ _ h3 (hd _ (h.sg g (by rw [h1]; rfl))), h4⟩
theorem ownsMap_blk {P : Program} {k : TypeId} {R : Value → Option (DataW Unit × List MemPlace)} {w w' : World} {b n : Nat} {D : DataW Unit} (h : w.ownsMap P k R b n D) (hb : ∀ o, w.heap[b]? = some o → w'.heap[b]? = some o) : w'.ownsMap P k R b n D := by
  obtain ⟨es, clock, h1, h2⟩ := h
  exact ⟨es, clock, hb _ h1, h2⟩
theorem RdI.blk {w w' : World} {v : Value} {l : List Int} (h : RdI w v l) (hb : ∀ g o, v.ownBlock = some g → w.heap[g]? = some o → w'.heap[g]? = some o) : RdI w' v l := by
  rcases h with h | ⟨blk, off, cap, h1, h2, h3, h4, h5, h6⟩
  · exact .inl h
  · have ho : w.heap[blk]? = some w.heap[blk] := Array.getElem?_eq_getElem h5
    have hb' := hb blk _ (by rw [h1]; rfl) ho
    refine .inr ⟨blk, off, cap, h1, h2, h3, h4, (Array.getElem?_eq_some_iff.1 hb').1, fun i hi => ?_⟩
    obtain ⟨ds, d1, d2, d3⟩ := h6 i hi
    refine ⟨ds, d1, fun j hj => ?_, d3⟩
    rw [← d2 j hj]
    exact World.cell?_of_block (by rw [hb', ho])
/-- a disk stays while others turn -/
theorem DiskAt.fr {D : Nat} {S S' : Nat → Prop} {st : DS} {L : List FB} {M : Nat} {kv : Value} {w w' : World} (h : DiskAt D S st L M kv w) (hf : Fr S' w w') (hd : ∀ k, S k → ¬ S' k) : DiskAt D S st L M kv w' :=
  { h with
    cell := hf.blk _ _ h.cell (hd _ h.sD)
    map := ownsMap_blk h.map (fun o ho => hf.blk _ _ ho (hd _ h.sM))
    file := fun x hx => (h.file x hx).fr hf hd
    keep := RdI.blk h.keep (fun g o hg ho => hf.blk _ _ ho (hd _ (h.keepS g hg).1))
    keepS := fun g hg => by
      obtain ⟨h1, cs, fz, h2⟩ := h.keepS g hg
      exact ⟨h1, cs, fz, hf.blk _ _ h2 (hd _ h1)⟩ }
theorem DiskAt.gr {D : Nat} {S : Nat → Prop} {st : DS} {L : List FB} {M : Nat} {kv : Value} {w w' : World} (h : DiskAt D S st L M kv w) (hg : Gr w w') : DiskAt D S st L M kv w' :=
  h.fr (S' := fun _ => False) (Fr.gr hg _) (fun _ _ h => h)
theorem DiskAt.mono {D : Nat} {S S' : Nat → Prop} {st : DS} {L : List FB} {M : Nat} {kv : Value} {w : World} (h : DiskAt D S st L M kv w) (hS : ∀ k, S k → S' k) : DiskAt D S' st L M kv w :=
  { h with file := fun x hx => { h.file x hx with sb := hS _ (h.file x hx).sb, sg := fun g hg => hS _ ((h.file x hx).sg g hg) }, keepS := fun g hg => ⟨hS _ (h.keepS g hg).1, (h.keepS g hg).2⟩, sD := hS _ h.sD, sM := hS _ h.sM }

theorem eqlSome (bm : Nat) (w : World) : (binOp .eql 65 (.map (some bm)) (.map none)).run Try.prog w = .ok (.bool false) w := by kernel_rfl
theorem none_any {D : Nat} {m : Nat} {a : Bool} {l : Int} {kv : Value} {w : World} (h : w.heap[D]? = some (.cells #[.map (some m), .bool a, .int .i64 l, kv] 67)) :
    Calls Try.prog 45 #[.pointer (some ⟨D, 0, none⟩)] w fun e w' => e = .returned (.bool false) ∧ w = w' := by
  obtain ⟨k_0, k_1, k_2, k_3, g_0, g_1, g_2, g_3, l_0⟩ := blk4 h
  clear h
  have hq := eqlSome m
  go_enter Try.func45, Try.ntmps45
  go_wp2
  go_ret
  exact ⟨rfl, rfl⟩
theorem ask_any {D : Nat} {m : Nat} {a : Bool} {l : Int} {kv : Value} {w : World} (h : w.heap[D]? = some (.cells #[.map (some m), .bool a, .int .i64 l, kv] 67)) :
    Calls Try.prog 35 #[.pointer (some ⟨D, 0, none⟩)] w fun e w' => e = .returned (.int .i64 (if a = true then 71 else 0)) ∧ w = w' := by
  have HN := Lib.hid (none_any h)
  obtain ⟨k_0, k_1, k_2, k_3, g_0, g_1, g_2, g_3, l_0⟩ := blk4 h
  clear h
  cases a with
  | true =>
    go_enter Try.func35, Try.ntmps35
    go_wp2_with (go_at_call 45; refine HN.out.mono ?_; rintro e w1 ⟨rfl, rfl⟩)
    go_ret
    exact ⟨rfl, rfl⟩
  | false =>
    go_enter Try.func35, Try.ntmps35
    go_wp2_with (go_at_call 45; refine HN.out.mono ?_; rintro e w1 ⟨rfl, rfl⟩)
    go_ret
    exact ⟨rfl, rfl⟩
theorem isEmpty_sz (s : ByteArray) : s.toList.isEmpty = decide (s.size = 0) := by
  rw [ByteArray.toList_eq]
  show s.data.toList.isEmpty = decide (s.data.size = 0)
  rw [← Array.length_toList]
  cases s.data.toList <;> simp
theorem mayName_any (s : ByteArray) (w : World) : Calls Try.prog 36 #[.string s] w fun e w' => e = .returned (.bool (nameOk s.data.toList)) ∧ w = w' := by
  have h1 : s.data.toList.isEmpty = decide (s.size = 0) := by rw [← isEmpty_sz, ByteArray.toList_eq]
  have h2 : s.data.toList.length = s.size := Array.length_toList
  have hN : nameOk s.data.toList = (!decide (s.size = 0) && decide (s.size ≤ 40)) := by unfold nameOk; rw [h1, h2]
  rw [hN]
  have hz := isEmpty_sz s
  clear h1 h2 hN
  by_cases h0 : s.size = 0
  · have hz' : s.toList.isEmpty = true := by rw [hz]; simpa using h0
    go_enter Try.func36, Try.ntmps36
    go_wp2
    go_ret
    exact ⟨ret_bool (by simp [h0]), rfl⟩
  · have hz' : s.toList.isEmpty = false := by rw [hz]; simpa using h0
    go_enter Try.func36, Try.ntmps36
    go_wp2
    go_ret
    exact ⟨ret_bool (by simp [h0]; try omega), rfl⟩

theorem strK : Keyed Try.prog 9 := string_keyed Try.underlying9
theorem zeroPF (w : World) : (zeroValue 70).run Try.prog w = .ok (.pointer none) w := by kernel_rfl
theorem lookV (L : List FB) (nm : List UInt8) : ∃ v : Value, v = match getK FB.nm nm L with | some x => .pointer (some ⟨x.blk, 0, none⟩) | none => .pointer none := ⟨_, rfl⟩
def ptrOf (o : Option FB) : Value := match o with | some x => .pointer (some ⟨x.blk, 0, none⟩) | none => .pointer none
/-- d.files[name] -/
theorem look_any {M n : Nat} {L : List FB} {w : World} (h : w.ownsMap Try.prog 9 ptrElem M n (mapD L)) (s : ByteArray) (hs : s.size ≤ maxLen) :
    (Instr.lookup 65 (.map (some M)) (.string s) false).run Try.prog w = .ok (ptrOf (getK FB.nm s.data.toList L)) w := by
  obtain ⟨v, ps, hrun, hv⟩ := h.lookup strK Try.underlying65 (zeroPF w) ptrElem_nil (WideMaps.keyOf_string_mk Try.underlying9 hs)
  rw [hrun]
  rw [mapD_at] at hv
  cases hg : getK FB.nm s.data.toList L with
  | none =>
    rw [hg] at hv
    rcases ptrElem_inv hv with ⟨rfl, _⟩ | ⟨b, _, hb⟩
    · rfl
    · simp at hb
  | some x =>
    rw [hg] at hv
    rcases ptrElem_inv hv with ⟨_, hb⟩ | ⟨b, rfl, hb⟩
    · simp at hb
    · simp at hb
      have : b = x.blk := by omega
      subst this
      rfl
theorem find_any {D : Nat} {S : Nat → Prop} {st : DS} {L : List FB} {M : Nat} {kv : Value} {w : World} (h : DiskAt D S st L M kv w) (s : ByteArray) (hs : s.size ≤ maxLen) :
    Calls Try.prog 40 #[.pointer (some ⟨D, 0, none⟩), .string s] w fun e w' => e = .returned (.tuple #[if st.dead = true then .pointer none else ptrOf (getK FB.nm s.data.toList L), .int .i64 (if st.dead = true then 71 else if getK FB.nm s.data.toList L = none then 70 else 0)]) ∧ w = w' := by
  have HL := Lib.hid (look_any h.map s hs)
  have HA := Lib.hid (ask_any h.cell)
  obtain ⟨k_0, k_1, k_2, k_3, g_0, g_1, g_2, g_3, l_0⟩ := blk4 h.cell
  generalize st.dead = a at *
  clear h
  cases a with
  | true =>
    go_enter Try.func40, Try.ntmps40
    go_wp2_with (go_at_call 35; refine HA.out.mono ?_; rintro e w1 ⟨rfl, rfl⟩)
    go_ret2
    exact ⟨rfl, rfl⟩
  | false =>
    cases hg : getK FB.nm s.data.toList L with
    | none =>
      rw [hg] at HL
      have hl := HL.out
      unfold ptrOf at hl
      go_enter Try.func40, Try.ntmps40
      go_wp2_with (go_at_call 35; refine HA.out.mono ?_; rintro e w1 ⟨rfl, rfl⟩)
      go_ret2
      exact ⟨rfl, rfl⟩
    | some x =>
      rw [hg] at HL
      have hl := HL.out
      unfold ptrOf at hl
      go_enter Try.func40, Try.ntmps40
      go_wp2_with (go_at_call 35; refine HA.out.mono ?_; rintro e w1 ⟨rfl, rfl⟩)
      go_ret2
      exact ⟨by simp [ptrOf], rfl⟩
end Go.Proofs.Ytadbcikabpbogaa
