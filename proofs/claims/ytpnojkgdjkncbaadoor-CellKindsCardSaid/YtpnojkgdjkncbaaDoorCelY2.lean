/- Layer 11's keys: ReadRecord. -/
import Derived.Test.YtpnojkgdjkncbaaDoorCelX
namespace Go.Proofs.YtpnojkgdjkncbaaDoor
open Go.RowKit
set_option maxRecDepth 100000
set_option linter.unusedVariables false
set_option linter.unusedSimpArgs false

def readRecordR (l : List UInt8) : List UInt8 × Int × Int :=
  if (whoseR l 116).2.2 = true ∧ (whoseR l 116).2.1.length = 8 ∧ numL (whoseR l 116).2.1 ≤ 9007199254740991 ∧ 1 ≤ numL (whoseR l 116).2.1 then ((whoseR l 116).1, numL (whoseR l 116).2.1, 0) else ([], 0, 4)
theorem pow7 : (256 : Int) ^ 7 = 72057594037927936 := by decide
theorem numL_lt7 (l : List UInt8) (h : l.length ≤ 7) : numL l < 72057594037927936 := by
  have h1 := (numL_bd l).2
  have h3 : (256 : Int) ^ l.length ≤ (256 : Int) ^ 7 := by
    have := Nat.pow_le_pow_right (n := 256) (by decide) h
    rw [← Int.ofNat_le, Int.natCast_pow, Int.natCast_pow] at this
    exact this
  rw [pow7] at h3
  exact Int.lt_of_lt_of_le h1 h3
theorem or_u64 (a : Int) (c : UInt8) (h0 : 0 ≤ a) (h1 : a < 72057594037927936) : bits .or .u64 (a * 256) c.toNat = a * 256 + c.toNat := by
  obtain ⟨n, rfl⟩ := Int.eq_ofNat_of_zero_le h0
  have hc := c.toNat_lt
  have e : n * 256 ||| c.toNat = n * 256 + c.toNat := by
    have := Nat.two_pow_add_eq_or_of_lt (i := 8) (b := c.toNat) (by simpa using hc) n
    rw [show (2 : Nat) ^ 8 = 256 from rfl, Nat.mul_comm 256 n] at this
    exact this.symm
  have h2 : (BitVec.ofInt 64 ((n : Int) * 256)).toNat = n * 256 := by
    rw [show (n : Int) * 256 = ((n * 256 : Nat) : Int) by omega, BitVec.ofInt_natCast, BitVec.toNat_ofNat]; exact Nat.mod_eq_of_lt (by omega)
  have h3 : (BitVec.ofInt 64 (c.toNat : Int)).toNat = c.toNat := by
    rw [BitVec.ofInt_natCast, BitVec.toNat_ofNat]; exact Nat.mod_eq_of_lt (by omega)
  show IntKind.u64.wrap ((BitVec.ofInt 64 ((n : Int) * 256) ||| BitVec.ofInt 64 (c.toNat : Int)).toNat : Int) = _
  rw [BitVec.toNat_or, h2, h3, e]
  show (((n * 256 + c.toNat : Nat) : Int)) % 18446744073709551616 = _
  omega

set_option maxHeartbeats 2000000 in
theorem readRecord_any (s : ByteArray) (hs : s.size ≤ 140737488355328) (w : World) : Calls Tryd.prog 42 #[.string s] w fun e w' =>
    e = .returned (.tuple #[.string ⟨(readRecordR s.data.toList).1.toArray⟩, .int .i64 (readRecordR s.data.toList).2.1, .int .i64 (readRecordR s.data.toList).2.2]) ∧ Gr w w' := by
  have HT := Lib.hid (fun w => whose_any s hs 116 w)
  have HU : Hid (readRecordR s.data.toList = if (whoseR s.data.toList 116).2.2 = true ∧ (whoseR s.data.toList 116).2.1.length = 8 ∧ numL (whoseR s.data.toList 116).2.1 ≤ 9007199254740991 ∧ 1 ≤ numL (whoseR s.data.toList 116).2.1 then ((whoseR s.data.toList 116).1, numL (whoseR s.data.toList 116).2.1, 0) else ([], 0, 4)) := Lib.hid rfl
  generalize (whoseR s.data.toList 116) = r at HT HU
  obtain ⟨k, rest, ok⟩ := r
  replace HU : Hid (readRecordR s.data.toList = if ok = true ∧ rest.length = 8 ∧ numL rest ≤ 9007199254740991 ∧ 1 ≤ numL rest then (k, numL rest, 0) else ([], 0, 4)) := HU
  have hsz := ba_len rest
  cases ok with
  | false =>
    go_enter Tryd.func42, Tryd.ntmps42
    go_wp2_with (go_at_call 75; refine (HT.out _).mono ?_; rintro e w1 ⟨rfl, hg1⟩)
    go_ret3
    exact ⟨by rw [HU.out]; simp, (by repeat (first | (with_reducible exact Gr.refl _) | (with_reducible assumption) | (with_reducible refine Gr.alloc ?_ _) | (with_reducible refine Gr.drew ?_) | (with_reducible refine Gr.drewN ?_ _) | (with_reducible refine Gr.trans ?_ (by assumption)) | (with_reducible refine Gr.setCell ?_ (by first | exact Nat.le_refl _ | omega | (simp; done) | (simp; omega)) _)))⟩
  | true =>
    by_cases h8 : rest.length = 8
    · have hcv := fun (w : World) => Lib.run_convert_string_bytes (P := Tryd.prog) w 9 73 5 ⟨rest.toArray⟩ Tryd.underlying9 Tryd.underlying73 Tryd.underlying5
      rw [h8] at hsz
      have hne : (((8 : Nat) : Int) != 8) = false := by decide
      have HL := Lib.hid h8
      go_enter Tryd.func42, Tryd.ntmps42
      go_wp2_with (go_at_call 75; refine (HT.out _).mono ?_; rintro e w1 ⟨rfl, hg1⟩)
      have HG : Hid (Gr w (Lib.bytesWorld w1 5 ⟨rest.toArray⟩)) := Lib.hid (hg1.trans (bytesWorld_gr _ _ _))
      clear hcv hg1 h8
      go_loop [7, 26] (fun n i => ∃ j : Nat, j ≤ 8 ∧ i = .int .i64 j ∧ n = .int .u64 (numL (rest.take j))) (fun _ i => 8 - (intOf i).toNat)
      case atStart => exact ⟨0, Nat.zero_le _, rfl, rfl⟩
      case round =>
        obtain ⟨j, hj, rfl, rfl⟩ := hrel
        by_cases hlt : j < 8
        · have hcell := Lib.bytesWorld_cell w1 5 ⟨rest.toArray⟩ j (by rw [hsz]; exact hlt)
          have hb0 := (numL_bd (rest.take j)).1
          have hb7 := numL_lt7 (rest.take j) (by rw [List.length_take]; omega)
          go_wp2
          go_round
          case rel => exact ⟨j + 1, by omega, by go_num, by
            have hj' : j < rest.length := by rw [HL.out]; exact hlt
            have hg : (rest[j]?.getD 0) = rest[j] := by rw [List.getElem?_eq_getElem hj']; rfl
            have hc := rest[j].toNat_lt
            rw [hg, show IntKind.u64.wrap (rest[j].toNat : Int) = rest[j].toNat by show ((rest[j].toNat : Int)) % 18446744073709551616 = _; omega, or_u64 _ _ hb0 hb7, List.take_succ_eq_append_getElem hj', numL_snoc]⟩
          case measure => simp [intOf]; omega
        · obtain rfl : j = 8 := by omega
          have ht : rest.take 8 = rest := List.take_of_length_le (by rw [HL.out]; omega)
          rw [ht]
          have hb0 := (numL_bd rest).1
          have HZ : Hid (rest.length = 8) := HL
          clear ht
          generalize numL rest = z at *
          by_cases hz : z ≤ 9007199254740991
          · have hcz : IntKind.i64.wrap z = z := IntWalk.i64_in _ (by omega)
            have HI := Lib.hid (fun u => isId_any z u)
            rcases bool_cases (idOk z) with hi | hi
            · rw [hi] at HI
              have hz1 : 1 ≤ z := by simp [idOk] at hi; omega
              clear hi
              go_wp2_with (go_at_call 70; refine (HI.out _).mono ?_; rintro e w2 ⟨rfl, rfl⟩)
              go_ret3
              exact ⟨by rw [HU.out, if_pos ⟨by first | trivial | rfl, HZ.out, hz, hz1⟩]; rfl, HG.out⟩
            · rw [hi] at HI
              have hz1 : ¬ 1 ≤ z := by simp [idOk] at hi; omega
              clear hi
              go_wp2_with (go_at_call 70; refine (HI.out _).mono ?_; rintro e w2 ⟨rfl, rfl⟩)
              go_ret3
              exact ⟨by rw [HU.out, if_neg (by rintro ⟨_, _, _, h⟩; omega)]; rfl, HG.out⟩
          · go_wp2_with (go_at_call 70; refine (isId_any _ _).mono ?_; rintro e w2 ⟨rfl, rfl⟩)
            all_goals go_ret3
            exact ⟨by rw [HU.out, if_neg (by rintro ⟨_, _, h, _⟩; omega)]; rfl, HG.out⟩
    · have hne : ((rest.length : Int) != 8) = true := by rw [bne_iff_ne]; omega
      go_enter Tryd.func42, Tryd.ntmps42
      go_wp2_with (go_at_call 75; refine (HT.out _).mono ?_; rintro e w1 ⟨rfl, hg1⟩)
      go_ret3
      exact ⟨by rw [HU.out]; simp [h8], (by repeat (first | (with_reducible exact Gr.refl _) | (with_reducible assumption) | (with_reducible refine Gr.alloc ?_ _) | (with_reducible refine Gr.drew ?_) | (with_reducible refine Gr.drewN ?_ _) | (with_reducible refine Gr.trans ?_ (by assumption)) | (with_reducible refine Gr.setCell ?_ (by first | exact Nat.le_refl _ | omega | (simp; done) | (simp; omega)) _)))⟩
end Go.Proofs.YtpnojkgdjkncbaaDoor
