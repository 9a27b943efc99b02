/- Layer 7: contracts over a disk that keeps off what else is there. Printed by genDKO.py. -/
import Derived.Test.YtadbcikabpbogaaDskV
namespace Go.Proofs.Ytadbcikabpbogaa
open Go.RowKit Go.Maps
set_option maxRecDepth 100000
set_option linter.unusedVariables false
set_option linter.unusedSimpArgs false

/-- a disk of blocks from N on, none of them among O -/
def DKO (D N : Nat) (O : Nat → Prop) (st : DS) (w : World) : Prop := ∃ S L M kv, DiskAt D S st L M kv w ∧ ∀ k, S k → (N ≤ k ∧ ¬ O k) ∧ k < w.heap.size
abbrev FrO (N : Nat) (O : Nat → Prop) (w w' : World) : Prop := Fr (fun k => N ≤ k ∧ ¬ O k) w w'
theorem DKO.gr {D N : Nat} {O : Nat → Prop} {st : DS} {w w' : World} (h : DKO D N O st w) (hg : Gr w w') : DKO D N O st w' := by
  obtain ⟨S, L, M, kv, h1, h2⟩ := h
  exact ⟨S, L, M, kv, h1.gr hg, fun k hk => ⟨(h2 k hk).1, Nat.lt_of_lt_of_le (h2 k hk).2 hg.size⟩⟩
/-- what is made behind it is no part of it -/
theorem DK.off {D N : Nat} {st : DS} {w w' : World} (h : DK D N st w) (hg : Gr w w') (O : Nat → Prop) (hO : ∀ k, O k → w.heap.size ≤ k) : DKO D N O st w' := by
  obtain ⟨S, L, M, kv, h1, h2⟩ := h
  exact ⟨S, L, M, kv, h1.gr hg, fun k hk => ⟨⟨(h2 k hk).1, fun h => by have := hO k h; have := (h2 k hk).2; omega⟩, Nat.lt_of_lt_of_le (h2 k hk).2 hg.size⟩⟩
theorem DKO.off {D N : Nat} {O : Nat → Prop} {st : DS} {w w' : World} (h : DKO D N O st w) (hg : Gr w w') (O' : Nat → Prop) (hO : ∀ k, O' k → O k ∨ w.heap.size ≤ k) : DKO D N O' st w' := by
  obtain ⟨S, L, M, kv, h1, h2⟩ := h
  exact ⟨S, L, M, kv, h1.gr hg, fun k hk => ⟨⟨(h2 k hk).1.1, fun h => by
    rcases hO k h with h | h
    · exact (h2 k hk).1.2 h
    · have := (h2 k hk).2; omega⟩, Nat.lt_of_lt_of_le (h2 k hk).2 hg.size⟩⟩
theorem DKO.dk {D N : Nat} {O : Nat → Prop} {st : DS} {w : World} (h : DKO D N O st w) : DK D N st w := by
  obtain ⟨S, L, M, kv, h1, h2⟩ := h
  exact ⟨S, L, M, kv, h1, fun k hk => ⟨(h2 k hk).1.1, (h2 k hk).2⟩⟩
theorem FrO.gr {N : Nat} {O : Nat → Prop} {w0 w1 w' : World} (h : FrO N O w1 w') (hg : Gr w0 w1) (hN : w0.heap.size ≤ N) : Gr w0 w' := Fr.toGr hg h (fun k hk => by have : N ≤ k := hk.1; omega)
theorem DKO.of {D N : Nat} {O : Nat → Prop} {S : Nat → Prop} {st : DS} {L : List FB} {M : Nat} {kv : Value} {w : World} (h : DiskAt D S st L M kv w) (hS : ∀ k, S k → N ≤ k ∧ ¬ O k) : DKO D N O st w :=
  ⟨_, L, M, kv, h.bound, fun k hk => ⟨hS k hk.1, hk.2⟩⟩
theorem DKO.up {D N : Nat} {O : Nat → Prop} {S : Nat → Prop} {st : DS} {L : List FB} {M : Nat} {kv : Value} {w w1 : World} (h : DiskAt D (Up S w) st L M kv w1) (hS : ∀ k, S k → (N ≤ k ∧ ¬ O k) ∧ k < w.heap.size) (hN : N ≤ w.heap.size) (hO : ∀ k, O k → k < w.heap.size) : DKO D N O st w1 :=
  DKO.of h (fun k hk => by
    rcases hk with hk | hk
    · exact (hS k hk).1
    · exact ⟨by omega, fun h => by have := hO k h; omega⟩)
theorem Ans.dko {D N : Nat} {O : Nat → Prop} {S : Nat → Prop} {M : Nat} {kv : Value} {w w' : World} {r : Int × DS} {e : Ending} (h : Ans D S M kv w r e w') (hS : ∀ k, S k → (N ≤ k ∧ ¬ O k) ∧ k < w.heap.size) (hN : N ≤ w.heap.size) (hO : ∀ k, O k → k < w.heap.size) : e = .returned (.int .i64 r.1) ∧ DKO D N O r.2 w' ∧ FrO N O w w' := by
  obtain ⟨h1, ⟨L, h2⟩, h3⟩ := h
  exact ⟨h1, DKO.up h2 hS hN hO, h3.mono (fun k hk => (hS k hk).1)⟩
theorem DKO.lt {D N : Nat} {O : Nat → Prop} {st : DS} {w : World} (h : DKO D N O st w) : N ≤ w.heap.size := h.dk.lt
section
variable {D N : Nat} {O : Nat → Prop} {st st' : DS} {w w1 : World} {c : Int}

theorem append_dko (h : DKO D N O st w) (hg : Gr w w1) (hO : ∀ k, O k → k < w1.heap.size) (s : ByteArray) (hs : s.size ≤ maxLen) {bv : Value} {l : List UInt8} (hl : Rd w1 bv l) (hll : l.length ≤ 140737488355328) (hbv : ∀ g, bv.ownBlock = some g → l ≠ [] → g < N ∨ O g ∨ w.heap.size ≤ g) :
    Calls Try.prog 12 #[.pointer (some ⟨D, 0, none⟩), .string s, bv] w1 fun e w' => e = .returned (.int .i64 (st.append s.data.toList l).1) ∧ DKO D N O (st.append s.data.toList l).2 w' ∧ FrO N O w1 w' := by
  have hN := Nat.le_trans h.lt hg.size
  obtain ⟨S, L, M, kv, h1, h2⟩ := h
  refine (append_any (h1.gr hg) s hs hl hll (fun g hg' hne hSg => by rcases hbv g hg' hne with h3 | h3 | h3; (have := (h2 g hSg).1.1; omega); exact (h2 g hSg).1.2 h3; (have := (h2 g hSg).2; omega))).mono ?_
  intro e w' ha
  exact ha.dko (fun k hk => ⟨(h2 k hk).1, Nat.lt_of_lt_of_le (h2 k hk).2 hg.size⟩) hN hO
theorem sync_dko (h : DKO D N O st w) (hg : Gr w w1) (hO : ∀ k, O k → k < w1.heap.size) (s : ByteArray) (hs : s.size ≤ maxLen) :
    Calls Try.prog 14 #[.pointer (some ⟨D, 0, none⟩), .string s] w1 fun e w' => e = .returned (.int .i64 (st.sync s.data.toList).1) ∧ DKO D N O (st.sync s.data.toList).2 w' ∧ FrO N O w1 w' := by
  have hN := Nat.le_trans h.lt hg.size
  obtain ⟨S, L, M, kv, h1, h2⟩ := h
  refine (sync_any (h1.gr hg) s hs).mono ?_
  intro e w' ha
  exact ha.dko (fun k hk => ⟨(h2 k hk).1, Nat.lt_of_lt_of_le (h2 k hk).2 hg.size⟩) hN hO
theorem cut_dko (h : DKO D N O st w) (hg : Gr w w1) (hO : ∀ k, O k → k < w1.heap.size) (s : ByteArray) (hs : s.size ≤ maxLen) (n : Int) (hn : -9223372036854775808 ≤ n ∧ n ≤ 9223372036854775807) :
    Calls Try.prog 15 #[.pointer (some ⟨D, 0, none⟩), .string s, .int .i64 n] w1 fun e w' => e = .returned (.int .i64 (st.cut s.data.toList n).1) ∧ DKO D N O (st.cut s.data.toList n).2 w' ∧ FrO N O w1 w' := by
  have hN := Nat.le_trans h.lt hg.size
  obtain ⟨S, L, M, kv, h1, h2⟩ := h
  refine (cut_any (h1.gr hg) s hs n hn).mono ?_
  intro e w' ha
  exact ha.dko (fun k hk => ⟨(h2 k hk).1, Nat.lt_of_lt_of_le (h2 k hk).2 hg.size⟩) hN hO
theorem rename_dko (h : DKO D N O st w) (hg : Gr w w1) (hO : ∀ k, O k → k < w1.heap.size) (s t : ByteArray) (hs : s.size ≤ maxLen) (ht : t.size ≤ maxLen) :
    Calls Try.prog 16 #[.pointer (some ⟨D, 0, none⟩), .string s, .string t] w1 fun e w' => e = .returned (.int .i64 (st.rename s.data.toList t.data.toList).1) ∧ DKO D N O (st.rename s.data.toList t.data.toList).2 w' ∧ FrO N O w1 w' := by
  have hN := Nat.le_trans h.lt hg.size
  obtain ⟨S, L, M, kv, h1, h2⟩ := h
  refine (rename_any (h1.gr hg) s t hs ht).mono ?_
  intro e w' ha
  exact ha.dko (fun k hk => ⟨(h2 k hk).1, Nat.lt_of_lt_of_le (h2 k hk).2 hg.size⟩) hN hO
theorem remove_dko (h : DKO D N O st w) (hg : Gr w w1) (hO : ∀ k, O k → k < w1.heap.size) (s : ByteArray) (hs : s.size ≤ maxLen) :
    Calls Try.prog 33 #[.pointer (some ⟨D, 0, none⟩), .string s] w1 fun e w' => e = .returned (.int .i64 (st.remove s.data.toList).1) ∧ DKO D N O (st.remove s.data.toList).2 w' ∧ FrO N O w1 w' := by
  have hN := Nat.le_trans h.lt hg.size
  obtain ⟨S, L, M, kv, h1, h2⟩ := h
  refine (remove_any (h1.gr hg) s hs).mono ?_
  intro e w' ha
  exact ha.dko (fun k hk => ⟨(h2 k hk).1, Nat.lt_of_lt_of_le (h2 k hk).2 hg.size⟩) hN hO
theorem crash_dko (h : DKO D N O st w) (hg : Gr w w1) (hO : ∀ k, O k → k < w1.heap.size) {ka : Value} {kl : List Int} (hk : RdI w1 ka kl) (hkb : ∀ x ∈ kl, -9223372036854775808 ≤ x ∧ x ≤ 9223372036854775807) (hka : ∀ g, ka.ownBlock = some g → kl ≠ [] → g < N ∨ O g ∨ w.heap.size ≤ g) :
    Calls Try.prog 23 #[.pointer (some ⟨D, 0, none⟩), ka] w1 fun e w' => e = .returned (.tuple #[]) ∧ DKO D N O (st.crash kl) w' ∧ FrO N O w1 w' := by
  obtain ⟨S, L, M, kv, h1, h2⟩ := h
  refine (crash_any (h1.gr hg) (ka := ka) (kl := kl) ⟨hk, fun g hg' hne => .inl (fun hSg => by rcases hka g hg' hne with h3 | h3 | h3; (have := (h2 g hSg).1.1; omega); exact (h2 g hSg).1.2 h3; (have := (h2 g hSg).2; omega)), hkb⟩).mono ?_
  rintro e w' ⟨rfl, ⟨L', hL⟩, hf⟩
  exact ⟨rfl, DKO.of hL (fun k hk => (h2 k hk).1), hf.mono (fun k hk => (h2 k hk).1)⟩
theorem fail_dko (h : DKO D N O st w) (hg : Gr w w1) (hO : ∀ k, O k → k < w1.heap.size) (n : Int) (hn : -9223372036854775808 ≤ n ∧ n ≤ 9223372036854775807) {ka : Value} {kl : List Int} (hk : RdI w1 ka kl) (hkl : kl.length * 8 ≤ 140737488355328) (hkb : ∀ x ∈ kl, -9223372036854775808 ≤ x ∧ x ≤ 9223372036854775807) :
    Calls Try.prog 13 #[.pointer (some ⟨D, 0, none⟩), .int .i64 n, ka] w1 fun e w' => e = .returned (.tuple #[]) ∧ DKO D N O (st.fail n kl) w' ∧ FrO N O w1 w' := by
  have hN := Nat.le_trans h.lt hg.size
  obtain ⟨S, L, M, kv, h1, h2⟩ := h
  refine (fail_any (h1.gr hg) n hn hk hkl hkb).mono ?_
  rintro e w' ⟨rfl, ⟨kv', hL⟩, hf⟩
  exact ⟨rfl, DKO.up hL (fun k hk => ⟨(h2 k hk).1, Nat.lt_of_lt_of_le (h2 k hk).2 hg.size⟩) hN hO, hf.mono (fun k hk => (h2 k hk).1)⟩
theorem boot_dko (h : DKO D N O st w) (hg : Gr w w1) (hO : ∀ k, O k → k < w1.heap.size) :
    Calls Try.prog 20 #[.pointer (some ⟨D, 0, none⟩)] w1 fun e w' => e = .returned (.tuple #[]) ∧ DKO D N O st.boot w' ∧ FrO N O w1 w' := by
  obtain ⟨S, L, M, kv, h1, h2⟩ := h
  refine (boot_any (h1.gr hg)).mono ?_
  rintro e w' ⟨rfl, hL, hf⟩
  exact ⟨rfl, DKO.of hL (fun k hk => (h2 k hk).1), hf.mono (fun k hk => (h2 k hk).1)⟩
theorem append_too (h : DKO D N O st w) (hg : Gr w w1) (hO : ∀ k, O k → k < w1.heap.size) (s : ByteArray) (hs : s.size ≤ maxLen) {bv : Value} {l : List UInt8} (hl : Rd w1 bv l) (hll : l.length ≤ 140737488355328) (hbv : ∀ g, bv.ownBlock = some g → l ≠ [] → g < N ∨ O g ∨ w.heap.size ≤ g) (he : st.append s.data.toList l = (c, st')) :
    Calls Try.prog 12 #[.pointer (some ⟨D, 0, none⟩), .string s, bv] w1 fun e w' => e = .returned (.int .i64 c) ∧ DKO D N O st' w' ∧ FrO N O w1 w' := by
  have := append_dko h hg hO s hs hl hll hbv
  rwa [he] at this
theorem sync_too (h : DKO D N O st w) (hg : Gr w w1) (hO : ∀ k, O k → k < w1.heap.size) (s : ByteArray) (hs : s.size ≤ maxLen) (he : st.sync s.data.toList = (c, st')) :
    Calls Try.prog 14 #[.pointer (some ⟨D, 0, none⟩), .string s] w1 fun e w' => e = .returned (.int .i64 c) ∧ DKO D N O st' w' ∧ FrO N O w1 w' := by
  have := sync_dko h hg hO s hs
  rwa [he] at this
theorem cut_too (h : DKO D N O st w) (hg : Gr w w1) (hO : ∀ k, O k → k < w1.heap.size) (s : ByteArray) (hs : s.size ≤ maxLen) (n : Int) (hn : -9223372036854775808 ≤ n ∧ n ≤ 9223372036854775807) (he : st.cut s.data.toList n = (c, st')) :
    Calls Try.prog 15 #[.pointer (some ⟨D, 0, none⟩), .string s, .int .i64 n] w1 fun e w' => e = .returned (.int .i64 c) ∧ DKO D N O st' w' ∧ FrO N O w1 w' := by
  have := cut_dko h hg hO s hs n hn
  rwa [he] at this
theorem rename_too (h : DKO D N O st w) (hg : Gr w w1) (hO : ∀ k, O k → k < w1.heap.size) (s t : ByteArray) (hs : s.size ≤ maxLen) (ht : t.size ≤ maxLen) (he : st.rename s.data.toList t.data.toList = (c, st')) :
    Calls Try.prog 16 #[.pointer (some ⟨D, 0, none⟩), .string s, .string t] w1 fun e w' => e = .returned (.int .i64 c) ∧ DKO D N O st' w' ∧ FrO N O w1 w' := by
  have := rename_dko h hg hO s t hs ht
  rwa [he] at this
theorem crash_too (h : DKO D N O st w) (hg : Gr w w1) (hO : ∀ k, O k → k < w1.heap.size) {ka : Value} {kl : List Int} (hk : RdI w1 ka kl) (hkb : ∀ x ∈ kl, -9223372036854775808 ≤ x ∧ x ≤ 9223372036854775807) (hka : ∀ g, ka.ownBlock = some g → kl ≠ [] → g < N ∨ O g ∨ w.heap.size ≤ g) (he : st.crash kl = st') :
    Calls Try.prog 23 #[.pointer (some ⟨D, 0, none⟩), ka] w1 fun e w' => e = .returned (.tuple #[]) ∧ DKO D N O st' w' ∧ FrO N O w1 w' := by
  have := crash_dko h hg hO hk hkb hka
  rwa [he] at this
theorem fail_too (h : DKO D N O st w) (hg : Gr w w1) (hO : ∀ k, O k → k < w1.heap.size) (n : Int) (hn : -9223372036854775808 ≤ n ∧ n ≤ 9223372036854775807) {ka : Value} {kl : List Int} (hk : RdI w1 ka kl) (hkl : kl.length * 8 ≤ 140737488355328) (hkb : ∀ x ∈ kl, -9223372036854775808 ≤ x ∧ x ≤ 9223372036854775807) (he : st.fail n kl = st') :
    Calls Try.prog 13 #[.pointer (some ⟨D, 0, none⟩), .int .i64 n, ka] w1 fun e w' => e = .returned (.tuple #[]) ∧ DKO D N O st' w' ∧ FrO N O w1 w' := by
  have := fail_dko h hg hO n hn hk hkl hkb
  rwa [he] at this
theorem boot_too (h : DKO D N O st w) (hg : Gr w w1) (hO : ∀ k, O k → k < w1.heap.size) (he : st.boot = st') :
    Calls Try.prog 20 #[.pointer (some ⟨D, 0, none⟩)] w1 fun e w' => e = .returned (.tuple #[]) ∧ DKO D N O st' w' ∧ FrO N O w1 w' := by
  have := boot_dko h hg hO
  rwa [he] at this

end
end Go.Proofs.Ytadbcikabpbogaa
