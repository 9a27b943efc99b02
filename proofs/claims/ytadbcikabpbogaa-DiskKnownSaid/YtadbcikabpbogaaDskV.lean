/- Layer 7: works. -/
import Derived.Test.YtadbcikabpbogaaDskU
namespace Go.Proofs.Ytadbcikabpbogaa
open Go.RowKit Go.Maps
set_option maxRecDepth 100000
set_option linter.unusedVariables false
set_option linter.unusedSimpArgs false

theorem Rd.lit {W : World} {g : Nat} {cs : Array Value} {fz : Nat × Nat} {l : List UInt8} (h : W.heap[g]? = some (.cells cs 5 fz)) (hv : cs.toList = (nums l).map (Value.int .u8)) (hl : l.length ≤ maxLen) : Rd W (.slice (some ⟨g, 0, none⟩) l.length l.length) l := by
  refine .inr ⟨g, 0, _, rfl, Nat.le_refl _, hl, (Array.getElem?_eq_some_iff.1 h).1, fun j hj => ?_⟩
  have e : cs.toList[j]? = ((nums l).map (Value.int .u8))[j]? := by rw [hv]
  simp only [nums, List.map_map, List.getElem?_map, List.getElem?_eq_getElem hj, Option.map_some, Array.getElem?_toList] at e
  simp [World.cell?, h, e]
theorem RdI.lit {W : World} {g : Nat} {cs : Array Value} {l : List Int} (h : W.heap[g]? = some (.cells cs 3)) (hv : cs.toList = l.map (Value.int .i64)) (hl : l.length ≤ maxLen) (h0 : 0 < l.length) : RdI W (.slice (some ⟨g, 0, none⟩) l.length l.length) l := by
  refine .inr ⟨g, 0, _, rfl, h0, Nat.le_refl _, hl, (Array.getElem?_eq_some_iff.1 h).1, fun j hj => ⟨intC l[j], rfl, fun i hi => ?_, rfl⟩⟩
  obtain rfl : i = 0 := by simpa [intC] using hi
  have e : cs.toList[j]? = (l.map (Value.int .i64))[j]? := by rw [hv]
  simp only [List.getElem?_map, List.getElem?_eq_getElem hj, Option.map_some, Array.getElem?_toList] at e
  simp [World.cell?, h, e, intC]
section
variable {D N : Nat} {st st' : DS} {w w1 : World} {c : Int}
theorem append_to (h : DK D N st w) (hg : Gr w w1) (s : ByteArray) (hs : s.size ≤ maxLen) {bv : Value} {l : List UInt8} (hl : Rd w1 bv l) (hll : l.length ≤ 140737488355328) (hbv : ∀ g, bv.ownBlock = some g → l ≠ [] → g < N ∨ w.heap.size ≤ g) (he : st.append s.data.toList l = (c, st')) :
    Calls Try.prog 12 #[.pointer (some ⟨D, 0, none⟩), .string s, bv] w1 fun e w' => e = .returned (.int .i64 c) ∧ DK D N st' w' ∧ FrN N w1 w' := by
  have := append_dk h hg s hs hl hll hbv
  rwa [he] at this
theorem sync_to (h : DK D N st w) (hg : Gr w w1) (s : ByteArray) (hs : s.size ≤ maxLen) (he : st.sync s.data.toList = (c, st')) :
    Calls Try.prog 14 #[.pointer (some ⟨D, 0, none⟩), .string s] w1 fun e w' => e = .returned (.int .i64 c) ∧ DK D N st' w' ∧ FrN N w1 w' := by
  have := sync_dk h hg s hs
  rwa [he] at this
theorem cut_to (h : DK D N st w) (hg : Gr w w1) (s : ByteArray) (hs : s.size ≤ maxLen) (n : Int) (hn : -9223372036854775808 ≤ n ∧ n ≤ 9223372036854775807) (he : st.cut s.data.toList n = (c, st')) :
    Calls Try.prog 15 #[.pointer (some ⟨D, 0, none⟩), .string s, .int .i64 n] w1 fun e w' => e = .returned (.int .i64 c) ∧ DK D N st' w' ∧ FrN N w1 w' := by
  have := cut_dk h hg s hs n hn
  rwa [he] at this
theorem rename_to (h : DK D N st w) (hg : Gr w w1) (s t : ByteArray) (hs : s.size ≤ maxLen) (ht : t.size ≤ maxLen) (he : st.rename s.data.toList t.data.toList = (c, st')) :
    Calls Try.prog 16 #[.pointer (some ⟨D, 0, none⟩), .string s, .string t] w1 fun e w' => e = .returned (.int .i64 c) ∧ DK D N st' w' ∧ FrN N w1 w' := by
  have := rename_dk h hg s t hs ht
  rwa [he] at this
theorem crash_to (h : DK D N st w) (hg : Gr w w1) {ka : Value} {kl : List Int} (hk : RdI w1 ka kl) (hkb : ∀ x ∈ kl, -9223372036854775808 ≤ x ∧ x ≤ 9223372036854775807) (hka : ∀ g, ka.ownBlock = some g → kl ≠ [] → g < N ∨ w.heap.size ≤ g) (he : st.crash kl = st') :
    Calls Try.prog 23 #[.pointer (some ⟨D, 0, none⟩), ka] w1 fun e w' => e = .returned (.tuple #[]) ∧ DK D N st' w' ∧ FrN N w1 w' := by
  have := crash_dk h hg hk hkb hka
  rwa [he] at this
theorem fail_to (h : DK D N st w) (hg : Gr w w1) (n : Int) (hn : -9223372036854775808 ≤ n ∧ n ≤ 9223372036854775807) {ka : Value} {kl : List Int} (hk : RdI w1 ka kl) (hkl : kl.length * 8 ≤ 140737488355328) (hkb : ∀ x ∈ kl, -9223372036854775808 ≤ x ∧ x ≤ 9223372036854775807) (he : st.fail n kl = st') :
    Calls Try.prog 13 #[.pointer (some ⟨D, 0, none⟩), .int .i64 n, ka] w1 fun e w' => e = .returned (.tuple #[]) ∧ DK D N st' w' ∧ FrN N w1 w' := by
  have := fail_dk h hg n hn hk hkl hkb
  rwa [he] at this
theorem boot_to (h : DK D N st w) (hg : Gr w w1) (he : st.boot = st') :
    Calls Try.prog 20 #[.pointer (some ⟨D, 0, none⟩)] w1 fun e w' => e = .returned (.tuple #[]) ∧ DK D N st' w' ∧ FrN N w1 w' := by
  have := boot_dk h hg
  rwa [he] at this
theorem read_to (h : DK D N st w) (hg : Gr w w1) (s : ByteArray) (hs : s.size ≤ maxLen) {l : List UInt8} (he : st.read s.data.toList = (l, c)) :
    Calls Try.prog 17 #[.pointer (some ⟨D, 0, none⟩), .string s] w1 fun e w' => ∃ v, e = .returned (.tuple #[v, .int .i64 c]) ∧ Own w' w1.heap.size v l ∧ Gr w1 w' := by
  have := read_dk h hg s hs
  rwa [he] at this
theorem has_to (h : DK D N st w) (hg : Gr w w1) (s : ByteArray) (hs : s.size ≤ maxLen) {bv : Value} {l : List UInt8} (hl : Rd w1 bv l) (he : st.read s.data.toList = (l, 0)) :
    Calls Try.prog 22 #[.pointer (some ⟨D, 0, none⟩), .string s, bv] w1 fun e w' => e = .returned (.bool true) ∧ Gr w1 w' := by
  have := has_dk h hg s hs hl
  rw [he] at this
  simpa using this
end
example : DS.append ⟨[], false, -1, []⟩ (⟨#[97]⟩ : ByteArray).data.toList [1, 2, 3] = (0, ⟨[⟨[97], [1, 2, 3], 0⟩], false, -1, []⟩) := by rfl
example : DS.crash ⟨[⟨[97], [1, 2, 3, 4, 5, 6], 3⟩], false, -1, []⟩ [2] = ⟨[⟨[97], [1, 2, 3, 4, 5], 5⟩], true, -1, []⟩ := by rfl
set_option maxHeartbeats 4000000 in
theorem works_any (w : World) : Calls Try.prog 9 #[] w fun e w' => e = .returned (.bool true) ∧ Gr w w' := by
  go_enter Try.func9, Try.ntmps9
  go_wp2_with fail
  refine (new_dk w).mono ?_
  rintro e w2 ⟨d, rfl, hd2, hf2⟩
  have HD2 := Lib.hid hd2
  have HG2 : Hid (Gr w w2) := Lib.hid ((Gr.refl w).trans hf2)
  clear hd2 hf2
  go_wp2_with fail
  refine (append_to HD2.out ((Gr.refl w2).alloc _) (⟨#[97]⟩ : ByteArray) (by decide) (l := [1, 2, 3]) (Rd.lit (heap_newn rfl) rfl (by decide)) (by decide) (fun g hg _ => .inr (by cases hg; exact Nat.le_refl _)) (c := 0) (st' := ⟨[⟨[97], [1, 2, 3], 0⟩], false, -1, []⟩) rfl).mono ?_
  rintro e w3 ⟨rfl, hd3, hf3⟩
  have HD3 := Lib.hid hd3
  have HG3 : Hid (Gr w w3) := Lib.hid (hf3.gr (HG2.out.alloc _) (Nat.le_refl _))
  clear hd3 hf3
  go_wp2_with fail
  refine (sync_to HD3.out (Gr.refl w3) (⟨#[97]⟩ : ByteArray) (by decide) (c := 0) (st' := ⟨[⟨[97], [1, 2, 3], 3⟩], false, -1, []⟩) rfl).mono ?_
  rintro e w4 ⟨rfl, hd4, hf4⟩
  have HD4 := Lib.hid hd4
  have HG4 : Hid (Gr w w4) := Lib.hid (hf4.gr HG3.out (Nat.le_refl _))
  clear hd4 hf4
  go_wp2_with fail
  refine (append_to HD4.out ((Gr.refl w4).alloc _) (⟨#[97]⟩ : ByteArray) (by decide) (l := [4, 5, 6]) (Rd.lit (heap_newn rfl) rfl (by decide)) (by decide) (fun g hg _ => .inr (by cases hg; exact Nat.le_refl _)) (c := 0) (st' := ⟨[⟨[97], [1, 2, 3, 4, 5, 6], 3⟩], false, -1, []⟩) rfl).mono ?_
  rintro e w5 ⟨rfl, hd5, hf5⟩
  have HD5 := Lib.hid hd5
  have HG5 : Hid (Gr w w5) := Lib.hid (hf5.gr (HG4.out.alloc _) (Nat.le_refl _))
  clear hd5 hf5
  go_wp2_with fail
  refine (crash_to HD5.out ((Gr.refl w5).alloc _) (kl := [2]) (RdI.lit (heap_newn rfl) rfl (by decide) (by decide)) (by decide) (fun g hg _ => .inr (by cases hg; exact Nat.le_refl _)) (st' := ⟨[⟨[97], [1, 2, 3, 4, 5], 5⟩], true, -1, []⟩) rfl).mono ?_
  rintro e w6 ⟨rfl, hd6, hf6⟩
  have HD6 := Lib.hid hd6
  have HG6 : Hid (Gr w w6) := Lib.hid (hf6.gr (HG5.out.alloc _) (Nat.le_refl _))
  clear hd6 hf6
  go_wp2_with fail
  refine (read_to HD6.out (Gr.refl w6) (⟨#[97]⟩ : ByteArray) (by decide) (l := []) (c := 71) rfl).mono ?_
  rintro e w7 ⟨v7, rfl, _, hf7⟩
  have HG7 : Hid (Gr w w7) := Lib.hid (HG6.out.trans hf7)
  have HRd7 := Lib.hid ((Gr.refl w6).trans hf7)
  clear hf7
  go_wp2_with fail
  refine (boot_to HD6.out HRd7.out (st' := ⟨[⟨[97], [1, 2, 3, 4, 5], 5⟩], false, -1, []⟩) rfl).mono ?_
  rintro e w8 ⟨rfl, hd8, hf8⟩
  have HD8 := Lib.hid hd8
  have HG8 : Hid (Gr w w8) := Lib.hid (hf8.gr HG7.out (Nat.le_refl _))
  clear hd8 hf8
  go_wp2_with fail
  refine (has_to HD8.out ((Gr.refl w8).alloc _) (⟨#[97]⟩ : ByteArray) (by decide) (l := [1, 2, 3, 4, 5]) (Rd.lit (heap_newn rfl) rfl (by decide)) rfl).mono ?_
  rintro e w9 ⟨rfl, hf9⟩
  have HG9 : Hid (Gr w w9) := Lib.hid ((HG8.out.alloc _).trans hf9)
  have HRd9 := Lib.hid (((Gr.refl w8).alloc _).trans hf9)
  clear hf9
  go_wp2_with fail
  refine (new_dk w9).mono ?_
  rintro e w10 ⟨f, rfl, hd10, hf10⟩
  have HD10 := Lib.hid hd10
  have HG10 : Hid (Gr w w10) := Lib.hid (HG9.out.trans hf10)
  clear hd10 hf10
  go_wp2_with fail
  refine (fail_to HD10.out (Gr.refl w10) 1 (by omega) (kl := []) (.inl ⟨rfl, none, 0, rfl, by decide, by simp⟩) (by decide) (by simp) (st' := ⟨[], false, 1, []⟩) rfl).mono ?_
  rintro e w11 ⟨rfl, hd11, hf11⟩
  have HD11 := Lib.hid hd11
  have HG11 : Hid (Gr w w11) := Lib.hid (hf11.gr HG10.out (HG9.out.size))
  clear hd11 hf11
  go_wp2_with fail
  refine (append_to HD11.out ((Gr.refl w11).alloc _) (⟨#[97]⟩ : ByteArray) (by decide) (l := [1]) (Rd.lit (heap_newn rfl) rfl (by decide)) (by decide) (fun g hg _ => .inr (by cases hg; exact Nat.le_refl _)) (c := 0) (st' := ⟨[⟨[97], [1], 0⟩], false, 0, []⟩) rfl).mono ?_
  rintro e w12 ⟨rfl, hd12, hf12⟩
  have HD12 := Lib.hid hd12
  have HG12 : Hid (Gr w w12) := Lib.hid (hf12.gr (HG11.out.alloc _) (HG9.out.size))
  clear hd12 hf12
  go_wp2_with fail
  refine (sync_to HD12.out (Gr.refl w12) (⟨#[97]⟩ : ByteArray) (by decide) (c := 71) (st' := ⟨[⟨[97], [], 0⟩], true, -1, []⟩) rfl).mono ?_
  rintro e w13 ⟨rfl, hd13, hf13⟩
  have HD13 := Lib.hid hd13
  have HG13 : Hid (Gr w w13) := Lib.hid (hf13.gr HG12.out (HG9.out.size))
  clear hd13 hf13
  go_wp2_with fail
  refine (dead_dk HD13.out (Gr.refl w13)).mono ?_
  rintro e _ ⟨rfl, rfl⟩
  go_wp2_with fail
  refine (boot_to HD13.out (Gr.refl w13) (st' := ⟨[⟨[97], [], 0⟩], false, -1, []⟩) rfl).mono ?_
  rintro e w14 ⟨rfl, hd14, hf14⟩
  have HD14 := Lib.hid hd14
  have HG14 : Hid (Gr w w14) := Lib.hid (hf14.gr HG13.out (HG9.out.size))
  clear hd14 hf14
  go_wp2_with fail
  refine (new_dk w14).mono ?_
  rintro e w15 ⟨g, rfl, hd15, hf15⟩
  have HD15 := Lib.hid hd15
  have HG15 : Hid (Gr w w15) := Lib.hid (HG14.out.trans hf15)
  have HRf15 := Lib.hid ((Gr.refl w14).trans hf15)
  clear hd15 hf15
  go_wp2_with fail
  refine (append_to HD15.out ((Gr.refl w15).alloc _) (⟨#[97]⟩ : ByteArray) (by decide) (l := [1, 2]) (Rd.lit (heap_newn rfl) rfl (by decide)) (by decide) (fun g hg _ => .inr (by cases hg; exact Nat.le_refl _)) (c := 0) (st' := ⟨[⟨[97], [1, 2], 0⟩], false, -1, []⟩) rfl).mono ?_
  rintro e w16 ⟨rfl, hd16, hf16⟩
  have HD16 := Lib.hid hd16
  have HG16 : Hid (Gr w w16) := Lib.hid (hf16.gr (HG15.out.alloc _) (HG14.out.size))
  have HRf16 := Lib.hid (hf16.gr (HRf15.out.alloc _) ((Gr.refl w14).size))
  clear hd16 hf16
  go_wp2_with fail
  refine (cut_to HD16.out (Gr.refl w16) (⟨#[97]⟩ : ByteArray) (by decide) 1 (by omega) (c := 0) (st' := ⟨[⟨[97], [1], 0⟩], false, -1, []⟩) rfl).mono ?_
  rintro e w17 ⟨rfl, hd17, hf17⟩
  have HD17 := Lib.hid hd17
  have HG17 : Hid (Gr w w17) := Lib.hid (hf17.gr HG16.out (HG14.out.size))
  have HRf17 := Lib.hid (hf17.gr HRf16.out ((Gr.refl w14).size))
  clear hd17 hf17
  go_wp2_with fail
  refine (rename_to HD17.out (Gr.refl w17) (⟨#[97]⟩ : ByteArray) (⟨#[98]⟩ : ByteArray) (by decide) (by decide) (c := 0) (st' := ⟨[⟨[98], [1], 0⟩], false, -1, []⟩) rfl).mono ?_
  rintro e w18 ⟨rfl, hd18, hf18⟩
  have HD18 := Lib.hid hd18
  have HG18 : Hid (Gr w w18) := Lib.hid (hf18.gr HG17.out (HG14.out.size))
  have HRf18 := Lib.hid (hf18.gr HRf17.out ((Gr.refl w14).size))
  clear hd18 hf18
  go_wp2_with fail
  refine (has_to HD18.out ((Gr.refl w18).alloc _) (⟨#[98]⟩ : ByteArray) (by decide) (l := [1]) (Rd.lit (heap_newn rfl) rfl (by decide)) rfl).mono ?_
  rintro e w19 ⟨rfl, hf19⟩
  have HG19 : Hid (Gr w w19) := Lib.hid ((HG18.out.alloc _).trans hf19)
  have HRf19 := Lib.hid ((HRf18.out.alloc _).trans hf19)
  have HRg19 := Lib.hid (((Gr.refl w18).alloc _).trans hf19)
  clear hf19
  go_wp2_with fail
  refine (read_to HD18.out HRg19.out (⟨#[97]⟩ : ByteArray) (by decide) (l := []) (c := 70) rfl).mono ?_
  rintro e w20 ⟨v20, rfl, _, hf20⟩
  have HG20 : Hid (Gr w w20) := Lib.hid (HG19.out.trans hf20)
  have HRf20 := Lib.hid (HRf19.out.trans hf20)
  have HRg20 := Lib.hid (HRg19.out.trans hf20)
  clear hf20
  go_wp2_with fail
  refine (has_to HD14.out HRf20.out (⟨#[97]⟩ : ByteArray) (by decide) (l := []) (Rd.nil _) rfl).mono ?_
  rintro e w21 ⟨rfl, hf21⟩
  have HG21 : Hid (Gr w w21) := Lib.hid (HG20.out.trans hf21)
  have HRf21 := Lib.hid (HRf20.out.trans hf21)
  have HRg21 := Lib.hid (HRg20.out.trans hf21)
  clear hf21
  go_wp2
  go_ret
  exact ⟨rfl, HG21.out⟩
end Go.Proofs.Ytadbcikabpbogaa
