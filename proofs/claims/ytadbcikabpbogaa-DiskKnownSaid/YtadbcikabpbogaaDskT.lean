/- Layer 7: contracts over a disk whose blocks are not told. -/
import Derived.Test.YtadbcikabpbogaaDskS
namespace Go.Proofs.Ytadbcikabpbogaa
open Go.RowKit Go.Maps
set_option maxRecDepth 100000
set_option linter.unusedVariables false
set_option linter.unusedSimpArgs false

/-- a disk of blocks from N on -/
def DK (D N : Nat) (st : DS) (w : World) : Prop := ∃ S L M kv, DiskAt D S st L M kv w ∧ ∀ k, S k → N ≤ k ∧ k < w.heap.size
abbrev FrN (N : Nat) (w w' : World) : Prop := Fr (fun k => N ≤ k) w w'
theorem DK.gr {D N : Nat} {st : DS} {w w' : World} (h : DK D N st w) (hg : Gr w w') : DK D N st w' := by
  obtain ⟨S, L, M, kv, h1, h2⟩ := h
  exact ⟨S, L, M, kv, h1.gr hg, fun k hk => ⟨(h2 k hk).1, Nat.lt_of_lt_of_le (h2 k hk).2 hg.size⟩⟩
theorem DK.of {D N : Nat} {S : Nat → Prop} {st : DS} {L : List FB} {M : Nat} {kv : Value} {w : World} (h : DiskAt D S st L M kv w) (hS : ∀ k, S k → N ≤ k) : DK D N st w :=
  ⟨_, L, M, kv, h.bound, fun k hk => ⟨hS k hk.1, hk.2⟩⟩
theorem DK.up {D N : Nat} {S : Nat → Prop} {st : DS} {L : List FB} {M : Nat} {kv : Value} {w w1 : World} (h : DiskAt D (Up S w) st L M kv w1) (hS : ∀ k, S k → N ≤ k ∧ k < w.heap.size) (hN : N ≤ w.heap.size) : DK D N st w1 :=
  DK.of h (fun k hk => by rcases hk with hk | hk; exact (hS k hk).1; omega)
theorem DK.lt {D N : Nat} {st : DS} {w : World} (h : DK D N st w) : N ≤ w.heap.size := by
  obtain ⟨S, L, M, kv, h1, h2⟩ := h
  have := h2 D h1.sD
  omega
theorem FrN.gr {N : Nat} {w0 w1 w' : World} (h : FrN N w1 w') (hg : Gr w0 w1) (hN : w0.heap.size ≤ N) : Gr w0 w' := Fr.toGr hg h (fun k hk => by have : N ≤ k := hk; omega)

theorem new_dk (w : World) : Calls Try.prog 10 #[] w fun e w' => ∃ D, e = .returned (.pointer (some ⟨D, 0, none⟩)) ∧ DK D w.heap.size ⟨[], false, -1, []⟩ w' ∧ Gr w w' := by
  refine (new_any w).mono ?_
  rintro e w' ⟨D, M, rfl, h, hg⟩
  exact ⟨D, rfl, DK.of h (fun k hk => hk), hg⟩
theorem Ans.dk {D N : Nat} {S : Nat → Prop} {M : Nat} {kv : Value} {w w' : World} {r : Int × DS} {e : Ending} (h : Ans D S M kv w r e w') (hS : ∀ k, S k → N ≤ k ∧ k < w.heap.size) (hN : N ≤ w.heap.size) : e = .returned (.int .i64 r.1) ∧ DK D N r.2 w' ∧ FrN N w w' := by
  obtain ⟨h1, ⟨L, h2⟩, h3⟩ := h
  exact ⟨h1, DK.up h2 hS hN, h3.mono (fun k hk => (hS k hk).1)⟩
section
variable {D N : Nat} {st : DS} {w w1 : World}
theorem append_dk (h : DK D N st w) (hg : Gr w w1) (s : ByteArray) (hs : s.size ≤ maxLen) {bv : Value} {l : List UInt8} (hl : Rd w1 bv l) (hll : l.length ≤ 140737488355328) (hbv : ∀ g, bv.ownBlock = some g → l ≠ [] → g < N ∨ w.heap.size ≤ g) :
    Calls Try.prog 12 #[.pointer (some ⟨D, 0, none⟩), .string s, bv] w1 fun e w' => e = .returned (.int .i64 (st.append s.data.toList l).1) ∧ DK D N (st.append s.data.toList l).2 w' ∧ FrN N w1 w' := by
  have hN := Nat.le_trans h.lt hg.size
  obtain ⟨S, L, M, kv, h1, h2⟩ := h
  refine (append_any (h1.gr hg) s hs hl hll (fun g hg' hne hSg => by have := h2 g hSg; have := hbv g hg' hne; omega)).mono ?_
  intro e w' ha
  exact ha.dk (fun k hk => ⟨(h2 k hk).1, Nat.lt_of_lt_of_le (h2 k hk).2 hg.size⟩) hN
theorem sync_dk (h : DK D N st w) (hg : Gr w w1) (s : ByteArray) (hs : s.size ≤ maxLen) :
    Calls Try.prog 14 #[.pointer (some ⟨D, 0, none⟩), .string s] w1 fun e w' => e = .returned (.int .i64 (st.sync s.data.toList).1) ∧ DK D N (st.sync s.data.toList).2 w' ∧ FrN N w1 w' := by
  have hN := Nat.le_trans h.lt hg.size
  obtain ⟨S, L, M, kv, h1, h2⟩ := h
  refine (sync_any (h1.gr hg) s hs).mono ?_
  intro e w' ha
  exact ha.dk (fun k hk => ⟨(h2 k hk).1, Nat.lt_of_lt_of_le (h2 k hk).2 hg.size⟩) hN
theorem cut_dk (h : DK D N st w) (hg : Gr w w1) (s : ByteArray) (hs : s.size ≤ maxLen) (n : Int) (hn : -9223372036854775808 ≤ n ∧ n ≤ 9223372036854775807) :
    Calls Try.prog 15 #[.pointer (some ⟨D, 0, none⟩), .string s, .int .i64 n] w1 fun e w' => e = .returned (.int .i64 (st.cut s.data.toList n).1) ∧ DK D N (st.cut s.data.toList n).2 w' ∧ FrN N w1 w' := by
  have hN := Nat.le_trans h.lt hg.size
  obtain ⟨S, L, M, kv, h1, h2⟩ := h
  refine (cut_any (h1.gr hg) s hs n hn).mono ?_
  intro e w' ha
  exact ha.dk (fun k hk => ⟨(h2 k hk).1, Nat.lt_of_lt_of_le (h2 k hk).2 hg.size⟩) hN
theorem rename_dk (h : DK D N st w) (hg : Gr w w1) (s t : ByteArray) (hs : s.size ≤ maxLen) (ht : t.size ≤ maxLen) :
    Calls Try.prog 16 #[.pointer (some ⟨D, 0, none⟩), .string s, .string t] w1 fun e w' => e = .returned (.int .i64 (st.rename s.data.toList t.data.toList).1) ∧ DK D N (st.rename s.data.toList t.data.toList).2 w' ∧ FrN N w1 w' := by
  have hN := Nat.le_trans h.lt hg.size
  obtain ⟨S, L, M, kv, h1, h2⟩ := h
  refine (rename_any (h1.gr hg) s t hs ht).mono ?_
  intro e w' ha
  exact ha.dk (fun k hk => ⟨(h2 k hk).1, Nat.lt_of_lt_of_le (h2 k hk).2 hg.size⟩) hN
theorem remove_dk (h : DK D N st w) (hg : Gr w w1) (s : ByteArray) (hs : s.size ≤ maxLen) :
    Calls Try.prog 33 #[.pointer (some ⟨D, 0, none⟩), .string s] w1 fun e w' => e = .returned (.int .i64 (st.remove s.data.toList).1) ∧ DK D N (st.remove s.data.toList).2 w' ∧ FrN N w1 w' := by
  have hN := Nat.le_trans h.lt hg.size
  obtain ⟨S, L, M, kv, h1, h2⟩ := h
  refine (remove_any (h1.gr hg) s hs).mono ?_
  intro e w' ha
  exact ha.dk (fun k hk => ⟨(h2 k hk).1, Nat.lt_of_lt_of_le (h2 k hk).2 hg.size⟩) hN
theorem crash_dk (h : DK D N st w) (hg : Gr w w1) {ka : Value} {kl : List Int} (hk : RdI w1 ka kl) (hkb : ∀ x ∈ kl, -9223372036854775808 ≤ x ∧ x ≤ 9223372036854775807) (hka : ∀ g, ka.ownBlock = some g → kl ≠ [] → g < N ∨ w.heap.size ≤ g) :
    Calls Try.prog 23 #[.pointer (some ⟨D, 0, none⟩), ka] w1 fun e w' => e = .returned (.tuple #[]) ∧ DK D N (st.crash kl) w' ∧ FrN N w1 w' := by
  obtain ⟨S, L, M, kv, h1, h2⟩ := h
  refine (crash_any (h1.gr hg) (ka := ka) (kl := kl) ⟨hk, fun g hg' hne => .inl (fun hS => by have := h2 g hS; have := hka g hg' hne; omega), hkb⟩).mono ?_
  rintro e w' ⟨rfl, ⟨L', hL⟩, hf⟩
  exact ⟨rfl, DK.of hL (fun k hk => (h2 k hk).1), hf.mono (fun k hk => (h2 k hk).1)⟩
theorem fail_dk (h : DK D N st w) (hg : Gr w w1) (n : Int) (hn : -9223372036854775808 ≤ n ∧ n ≤ 9223372036854775807) {ka : Value} {kl : List Int} (hk : RdI w1 ka kl) (hkl : kl.length * 8 ≤ 140737488355328) (hkb : ∀ x ∈ kl, -9223372036854775808 ≤ x ∧ x ≤ 9223372036854775807) :
    Calls Try.prog 13 #[.pointer (some ⟨D, 0, none⟩), .int .i64 n, ka] w1 fun e w' => e = .returned (.tuple #[]) ∧ DK D N (st.fail n kl) w' ∧ FrN N w1 w' := by
  have hN := Nat.le_trans h.lt hg.size
  obtain ⟨S, L, M, kv, h1, h2⟩ := h
  refine (fail_any (h1.gr hg) n hn hk hkl hkb).mono ?_
  rintro e w' ⟨rfl, ⟨kv', hL⟩, hf⟩
  exact ⟨rfl, DK.up hL (fun k hk => ⟨(h2 k hk).1, Nat.lt_of_lt_of_le (h2 k hk).2 hg.size⟩) hN, hf.mono (fun k hk => (h2 k hk).1)⟩
theorem boot_dk (h : DK D N st w) (hg : Gr w w1) :
    Calls Try.prog 20 #[.pointer (some ⟨D, 0, none⟩)] w1 fun e w' => e = .returned (.tuple #[]) ∧ DK D N st.boot w' ∧ FrN N w1 w' := by
  obtain ⟨S, L, M, kv, h1, h2⟩ := h
  refine (boot_any (h1.gr hg)).mono ?_
  rintro e w' ⟨rfl, hL, hf⟩
  exact ⟨rfl, DK.of hL (fun k hk => (h2 k hk).1), hf.mono (fun k hk => (h2 k hk).1)⟩
theorem read_dk (h : DK D N st w) (hg : Gr w w1) (s : ByteArray) (hs : s.size ≤ maxLen) :
    Calls Try.prog 17 #[.pointer (some ⟨D, 0, none⟩), .string s] w1 fun e w' => ∃ v, e = .returned (.tuple #[v, .int .i64 (st.read s.data.toList).2]) ∧ Own w' w1.heap.size v (st.read s.data.toList).1 ∧ Gr w1 w' := by
  obtain ⟨S, L, M, kv, h1, h2⟩ := h
  exact read_any (h1.gr hg) s hs
theorem size_dk (h : DK D N st w) (hg : Gr w w1) (s : ByteArray) (hs : s.size ≤ maxLen) :
    Calls Try.prog 24 #[.pointer (some ⟨D, 0, none⟩), .string s] w1 fun e w' => e = .returned (.tuple #[.int .i64 ((st.read s.data.toList).1.length : Int), .int .i64 (st.read s.data.toList).2]) ∧ w1 = w' := by
  obtain ⟨S, L, M, kv, h1, h2⟩ := h
  exact size_any (h1.gr hg) s hs
theorem names_dk (h : DK D N st w) (hg : Gr w w1) :
    Calls Try.prog 19 #[.pointer (some ⟨D, 0, none⟩)] w1 fun e w' => ∃ v, e = .returned v ∧ w'.ownsRow w1.heap.size 9 1 v st.names.length (st.names.map encStr) ∧ Gr w1 w' := by
  obtain ⟨S, L, M, kv, h1, h2⟩ := h
  exact names_any (h1.gr hg)
theorem dead_dk (h : DK D N st w) (hg : Gr w w1) :
    Calls Try.prog 18 #[.pointer (some ⟨D, 0, none⟩)] w1 fun e w' => e = .returned (.bool st.dead) ∧ w1 = w' := by
  obtain ⟨S, L, M, kv, h1, h2⟩ := h
  exact dead_any (h1.gr hg)
theorem read_len (h : DK D N st w) (nm : List UInt8) : (st.read nm).1.length ≤ 4194304 := by
  obtain ⟨S, L, M, kv, h1, h2⟩ := h
  unfold DS.read
  split
  · simp
  · cases hg : getF nm st.fs with
    | none => simp
    | some f =>
      have := allF_get h1.rise (getK_some hg).1
      have := h1.all
      simp only
      omega
end
end Go.Proofs.Ytadbcikabpbogaa
