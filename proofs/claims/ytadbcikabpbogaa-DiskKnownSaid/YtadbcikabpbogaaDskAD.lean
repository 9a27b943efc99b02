/- Layer 7: DiskKnown. Printed by genKnown.py. -/
import Derived.Test.YtadbcikabpbogaaDskAC
import Derived.Test.YtadbcikabpbogaaShelf
import Derived.Lib.Repeat
import Derived.Laws.MakeOwn
namespace Go.Proofs.Ytadbcikabpbogaa
open Go.RowKit Go.Maps
set_option maxRecDepth 100000
set_option linter.unusedVariables false
set_option linter.unusedSimpArgs false

theorem rep_any (x : UInt8) (c : Nat) (hc2 : 2 ≤ c) (hc : c ≤ 2000) (w : World) :
    Calls Try.prog 32 #[.string ⟨#[x]⟩, .int .i64 (c : Int)] w fun e w' => e = .returned (.string ⟨(List.replicate c x).toArray⟩) ∧ Gr w w' := by
  have hs : (⟨#[x]⟩ : ByteArray).size = 1 := rfl
  have he : Lib.repeatL (⟨#[x]⟩ : ByteArray).data.toList c = List.replicate c x := by
    have := Lib.repeatL_replicate x 1 c
    rw [Nat.mul_one] at this
    exact this
  refine (Try.strings_Repeat_main ⟨#[x]⟩ c w hc2 (by omega) (by rw [hs]; omega) (by rw [hs]; omega)).mono ?_
  rintro e w' ⟨rfl, hb⟩
  rw [he]
  exact ⟨rfl, ⟨hb⟩⟩
theorem made_zero (n : Nat) : (madeCells #[.int .u8 0] n).toList = (nums (List.replicate n 0)).map (Value.int .u8) := by
  simp only [madeCells, nums, Array.toList_map, Array.toList_range, List.map_replicate]
  apply List.ext_getElem
  · simp
  · intro i h1 h2
    simp [Nat.mod_one]
theorem Rd.made {W : World} {g n : Nat} (h : W.heap[g]? = some (.cells (madeCells #[.int .u8 0] n) 5)) (hn : n ≤ maxLen) : Rd W (.slice (some ⟨g, 0, none⟩) n n) (List.replicate n 0) := by
  have := Rd.lit (l := List.replicate n 0) h (made_zero n) (by rw [List.length_replicate]; exact hn)
  rwa [List.length_replicate] at this
theorem run_mk (n : Nat) (hn : n ≤ 16777216) (w : World) : (Instr.makeSlice 30 (.int .i64 (n : Int)) (.int .i64 (n : Int))).run Try.prog w = .ok (.slice (some ⟨w.heap.size, 0, none⟩) n n) (w.alloc (.cells (madeCells #[.int .u8 0] n) 5)) := by
  obtain ⟨i0, hi, hz0, hz1, hz2⟩ := info_parts info5
  have := run_make (P := Try.prog) w 30 5 i0 (.int .u8 0) Try.underlying30 hi hz0 .i64 .i64 n n (by omega) (by omega) (by rw [hz2]; omega) (by omega)
  simpa [hz1, Value.cells] using this
theorem app_ok {st : DS} {nm l : List UInt8} {f : DF} (hd : st.dead = false) (hl : st.left = -1) (hn : nameOk nm = true) (hg : getF nm st.fs = some f) (ha : allF st.fs + l.length ≤ 4194304) : st.append nm l = (0, { st with fs := putF ⟨nm, f.b ++ l, f.mark⟩ st.fs }) := by
  unfold DS.append
  rw [if_neg (by rw [hd]; decide), if_neg (by rw [hn]; decide), if_neg (by rw [hg]; rintro (⟨h, _⟩ | h); exact absurd h (by simp); omega)]
  unfold DS.work
  rw [if_neg (by rw [hl]; decide)]
  simp only [hg, hl]
  rfl
theorem app_full {st : DS} {nm l : List UInt8} (hd : st.dead = false) (hn : nameOk nm = true) (ha : 4194304 < allF st.fs + l.length) : st.append nm l = (7, st) := by
  unfold DS.append
  rw [if_neg (by rw [hd]; decide), if_neg (by rw [hn]; decide), if_pos (.inr ha)]
section
variable {D N : Nat} {st st' : DS} {w w1 : World} {c : Int}
theorem turn_to (h : DK D N st w) (hg : Gr w w1) (s : ByteArray) (hs : s.size ≤ maxLen) (n b : Int) (he : st.turn s.data.toList n b = (c, st')) :
    Calls Try.prog 34 #[.pointer (some ⟨D, 0, none⟩), .string s, .int .i64 n, .int .i64 b] w1 fun e w' => e = .returned (.int .i64 c) ∧ DK D N st' w' ∧ FrN N w1 w' := by
  refine (turn_dko (h.off (Gr.refl _) (fun _ => False) (fun _ h => h.elim)) hg (fun _ h => h.elim) s hs n b).mono ?_
  rw [he]
  rintro e w' ⟨h1, h2, h3⟩
  exact ⟨h1, h2.dk, h3.mono (fun k hk => hk.1)⟩
theorem remove_to (h : DK D N st w) (hg : Gr w w1) (s : ByteArray) (hs : s.size ≤ maxLen) (he : st.remove s.data.toList = (c, st')) :
    Calls Try.prog 33 #[.pointer (some ⟨D, 0, none⟩), .string s] w1 fun e w' => e = .returned (.int .i64 c) ∧ DK D N st' w' ∧ FrN N w1 w' := by
  have := remove_dk h hg s hs
  rwa [he] at this
end
def LG : List UInt8 := List.replicate 40 110
def kfs (k : Nat) : List DF := (List.range k).map (fun j => ⟨[UInt8.ofNat (66 + j)], [UInt8.ofNat (j + 1)], 0⟩) ++ [⟨LG, [], 0⟩]
def kst (k : Nat) : DS := ⟨kfs k, false, -1, []⟩
def kBig (L : List UInt8) : DS := ⟨⟨[66], [1] ++ L, 0⟩ :: (kfs 19).tail, false, -1, []⟩
def k18 : DS := ⟨(kfs 19).tail, false, -1, []⟩
def kN : DS := (k18.append [110, 101, 119] []).2
def kT : DS := (kN.turn [67] 0 1).2
def kC : DS := kT.crash [-1, -1]
def kB : DS := kC.boot
def kE : DS := (kB.append [67] [1]).2
def q1 : DS := ((⟨[], false, -1, []⟩ : DS).append [97] [1, 2, 3]).2
def q2 : DS := (q1.sync [97]).2
def q3 : DS := (q2.cut [97] 1).2
def q4 : DS := (q3.append [97] [4, 5]).2
def q5 : DS := q4.crash []
def q6 : DS := q5.boot
def q7 : DS := q6.fail 0 [0]
def q8 : DS := q7.fail (-5) []
theorem kBig_all (L : List UInt8) : allF (kBig L).fs = L.length + 19 := by
  show ([1] ++ L).length + allF (kfs 19).tail = _
  rw [show allF (kfs 19).tail = 18 by kernel_rfl]
  simp
  try omega
theorem kBig_1 (L : List UInt8) (hL : L.length = 4194285) : (kst 19).append [66] L = (0, kBig L) := by
  rw [app_ok (f := ⟨[66], [1], 0⟩) rfl rfl (by decide) (by kernel_rfl) (by rw [hL, show allF (kst 19).fs = 19 by kernel_rfl]; decide)]
  rfl
theorem kBig_0 (L : List UInt8) (hL : L.length = 4194286) : (kst 19).append [66] L = (7, kst 19) := app_full rfl (by decide) (by rw [hL, show allF (kst 19).fs = 19 by kernel_rfl]; decide)
theorem kBig_2 (L : List UInt8) (hL : L.length = 4194285) : (kBig L).append [66] [1] = (7, kBig L) := app_full rfl (by decide) (by rw [kBig_all, hL]; decide)
theorem kBig_3 (L : List UInt8) : (kBig L).remove [66] = (0, k18) := by rfl

theorem conv1 (w : World) (c : UInt8) : (convert 30 9 (.slice (some ⟨w.heap.size, 0, none⟩) 1 1)).run Try.prog (w.alloc (.cells #[.int .u8 c.toNat] 5)) = .ok (.string ⟨#[c]⟩) (w.alloc (.cells #[.int .u8 c.toNat] 5)) := by
  have := conv_row (n := 1) (c := 1) (nums [c]) (heap_alloc_new w (.cells #[.int .u8 c.toNat] 5)) (by simp [nums]) (by simp [nums])
  rw [strOfNums_nums] at this
  exact this
set_option maxHeartbeats 16000000 in
theorem diskKnown_walk (w : World) : Calls Try.prog 8 #[] w fun e w' => e = .returned (.bool true) ∧ Gr w w' := by
  go_enter Try.func8, Try.ntmps8
  go_wp2_with fail
  refine (new_dk w).mono ?_
  rintro e w1 ⟨d, rfl, hd, hg⟩
  have HD1 := Lib.hid hd
  have HG1 := Lib.hid hg
  clear hd hg
  go_wp2_with fail
  refine (rep_any 110 40 (by decide) (by decide) _).mono ?_
  rintro e w2 ⟨rfl, hg⟩
  have HD2 := Lib.hid (HD1.out.gr hg)
  have HG2 := Lib.hid (HG1.out.trans hg)
  clear hg
  obtain ⟨LB, hLB⟩ : ∃ LB : ByteArray, LB = ⟨(List.replicate 40 110).toArray⟩ := ⟨_, rfl⟩
  rw [← hLB]
  have HL : Hid (LB.data.toList = LG) := Lib.hid (by rw [hLB]; rfl)
  have HL1 : Hid ((LB ++ (⟨#[110]⟩ : ByteArray)).data.toList = List.replicate 41 110) := Lib.hid (by rw [hLB]; decide)
  have HLs : Hid (LB.size = 40) := Lib.hid (by rw [hLB]; decide)
  have HL1s : Hid ((LB ++ (⟨#[110]⟩ : ByteArray)).size = 41) := Lib.hid (by rw [hLB]; decide)
  clear hLB
  have hcat : ¬ 140737488355328 < LB.size + 1 := by rw [HLs.out]; decide
  go_wp2_with fail
  refine (append_to HD2.out (Gr.refl _) LB (by rw [HLs.out]; decide) (l := []) (.inl ⟨rfl, none, 0, rfl, by decide, fun _ => rfl⟩) (by decide) (fun g hg _ => by cases hg) (c := 0) (st' := kst 0) (by rw [HL.out]; kernel_rfl)).mono ?_
  rintro e w3 ⟨rfl, hd, hf⟩
  have HD3 := Lib.hid hd
  have HG3 : Hid (Gr w w3) := Lib.hid (hf.gr HG2.out (Nat.le_refl _))
  clear hd hf
  go_wp2_with fail
  refine (append_to HD3.out (Gr.refl _) (LB ++ (⟨#[110]⟩ : ByteArray)) (by rw [HL1s.out]; decide) (l := []) (.inl ⟨rfl, none, 0, rfl, by decide, fun _ => rfl⟩) (by decide) (fun g hg _ => by cases hg) (c := 70) (st' := kst 0) (by rw [HL1.out]; kernel_rfl)).mono ?_
  rintro e w4 ⟨rfl, hd, hf⟩
  have HD4 := Lib.hid hd
  have HG4 : Hid (Gr w w4) := Lib.hid (hf.gr HG3.out (Nat.le_refl _))
  clear hd hf
  go_wp2_with fail
  refine (append_to HD4.out (Gr.refl _) (⟨#[]⟩ : ByteArray) (by decide) (l := []) (.inl ⟨rfl, none, 0, rfl, by decide, fun _ => rfl⟩) (by decide) (fun g hg _ => by cases hg) (c := 70) (st' := kst 0) (by kernel_rfl)).mono ?_
  rintro e w5 ⟨rfl, hd, hf⟩
  have HD5 := Lib.hid hd
  have HG5 : Hid (Gr w w5) := Lib.hid (hf.gr HG4.out (Nat.le_refl _))
  clear hd hf
  go_wp2_with fail
  refine (rename_to HD5.out (Gr.refl _) LB (⟨#[]⟩ : ByteArray) (by rw [HLs.out]; decide) (by decide) (c := 70) (st' := kst 0) (by rw [HL.out]; kernel_rfl)).mono ?_
  rintro e w6 ⟨rfl, hd, hf⟩
  have HD6 := Lib.hid hd
  have HG6 : Hid (Gr w w6) := Lib.hid (hf.gr HG5.out (Nat.le_refl _))
  clear hd hf
  go_wp2_with fail
  refine (rename_to HD6.out (Gr.refl _) LB (LB ++ (⟨#[110]⟩ : ByteArray)) (by rw [HLs.out]; decide) (by rw [HL1s.out]; decide) (c := 70) (st' := kst 0) (by rw [HL.out]; rw [HL1.out]; kernel_rfl)).mono ?_
  rintro e w7 ⟨rfl, hd, hf⟩
  have HD7 := Lib.hid hd
  have HG7 : Hid (Gr w w7) := Lib.hid (hf.gr HG6.out (Nat.le_refl _))
  clear hd hf
  go_wp2_with fail
  refine (rename_to HD7.out (Gr.refl _) (⟨#[110, 111, 110, 101]⟩ : ByteArray) (⟨#[97]⟩ : ByteArray) (by decide) (by decide) (c := 70) (st' := kst 0) (by kernel_rfl)).mono ?_
  rintro e w8 ⟨rfl, hd, hf⟩
  have HD8 := Lib.hid hd
  have HG8 : Hid (Gr w w8) := Lib.hid (hf.gr HG7.out (Nat.le_refl _))
  clear hd hf
  go_wp2_with fail
  refine (sync_to HD8.out (Gr.refl _) (⟨#[110, 111, 110, 101]⟩ : ByteArray) (by decide) (c := 70) (st' := kst 0) (by kernel_rfl)).mono ?_
  rintro e w9 ⟨rfl, hd, hf⟩
  have HD9 := Lib.hid hd
  have HG9 : Hid (Gr w w9) := Lib.hid (hf.gr HG8.out (Nat.le_refl _))
  clear hd hf
  go_wp2_with fail
  refine (remove_to HD9.out (Gr.refl _) (⟨#[110, 111, 110, 101]⟩ : ByteArray) (by decide) (c := 70) (st' := kst 0) (by kernel_rfl)).mono ?_
  rintro e w10 ⟨rfl, hd, hf⟩
  have HD10 := Lib.hid hd
  have HG10 : Hid (Gr w w10) := Lib.hid (hf.gr HG9.out (Nat.le_refl _))
  clear hd hf
  go_wp2_with fail
  refine (cut_to HD10.out (Gr.refl _) (⟨#[110, 111, 110, 101]⟩ : ByteArray) (by decide) (-1) (by decide) (c := 70) (st' := kst 0) (by kernel_rfl)).mono ?_
  rintro e w11 ⟨rfl, hd, hf⟩
  have HD11 := Lib.hid hd
  have HG11 : Hid (Gr w w11) := Lib.hid (hf.gr HG10.out (Nat.le_refl _))
  clear hd hf
  go_wp2_with fail
  refine (turn_to HD11.out (Gr.refl _) (⟨#[110, 111, 110, 101]⟩ : ByteArray) (by decide) (9) (9) (c := 70) (st' := kst 0) (by kernel_rfl)).mono ?_
  rintro e w12 ⟨rfl, hd, hf⟩
  have HD12 := Lib.hid hd
  have HG12 : Hid (Gr w w12) := Lib.hid (hf.gr HG11.out (Nat.le_refl _))
  clear hd hf
  clear hcat
  go_wp2
  go_loopw [4] (fun iv wr => ∃ k : Nat, iv = .int .i64 ((k : Int) + 1) ∧ k ≤ 19 ∧ Hid (DK d w.heap.size (kst k) wr) ∧ Hid (Gr w wr)) (fun iv _ => 20 - (intOf iv).toNat)
  case atStart => exact ⟨0, rfl, by omega, HD12, HG12⟩
  case round =>
    obtain ⟨k, rfl, hk, HD, HG⟩ := hrel
    clear HD2 HG2 HD3 HG3 HD4 HG4 HD5 HG5 HD6 HG6 HD7 HG7 HD8 HG8 HD9 HG9 HD10 HG10 HD11 HG11 HD12 HG12
    by_cases hk19 : k < 19
    · obtain rfl | rfl | rfl | rfl | rfl | rfl | rfl | rfl | rfl | rfl | rfl | rfl | rfl | rfl | rfl | rfl | rfl | rfl | rfl : k = 0 ∨ k = 1 ∨ k = 2 ∨ k = 3 ∨ k = 4 ∨ k = 5 ∨ k = 6 ∨ k = 7 ∨ k = 8 ∨ k = 9 ∨ k = 10 ∨ k = 11 ∨ k = 12 ∨ k = 13 ∨ k = 14 ∨ k = 15 ∨ k = 16 ∨ k = 17 ∨ k = 18 := by omega
      · have hcv : (convert 30 9 (.slice (some ⟨wr.heap.size, 0, none⟩) 1 1)).run Try.prog (wr.alloc (.cells #[.int .u8 66] 5)) = .ok (.string ⟨#[66]⟩) (wr.alloc (.cells #[.int .u8 66] 5)) := conv1 wr 66
        go_wp2_with fail
        refine (append_to HD.out (((Gr.refl _).alloc _).alloc _) (⟨#[66]⟩ : ByteArray) (by decide) (l := [1]) (Rd.lit (g := wr.heap.size + 1) (heap_newn (by simp)) rfl (by decide)) (by decide) (fun g hg _ => .inr (by cases hg; simp)) (c := 0) (st' := kst 1) (by kernel_rfl)).mono ?_
        rintro e w3 ⟨rfl, hd, hf⟩
        have HD3 := Lib.hid hd
        have HG3 : Hid (Gr w w3) := Lib.hid (hf.gr ((HG.out.alloc _).alloc _) (Nat.le_refl _))
        clear hd hf
        go_wp2
        go_roundw
        case rel => exact ⟨1, by go_num, by omega, HD3, HG3⟩
        case measure => simp [intOf]
      · have hcv : (convert 30 9 (.slice (some ⟨wr.heap.size, 0, none⟩) 1 1)).run Try.prog (wr.alloc (.cells #[.int .u8 67] 5)) = .ok (.string ⟨#[67]⟩) (wr.alloc (.cells #[.int .u8 67] 5)) := conv1 wr 67
        go_wp2_with fail
        refine (append_to HD.out (((Gr.refl _).alloc _).alloc _) (⟨#[67]⟩ : ByteArray) (by decide) (l := [2]) (Rd.lit (g := wr.heap.size + 1) (heap_newn (by simp)) rfl (by decide)) (by decide) (fun g hg _ => .inr (by cases hg; simp)) (c := 0) (st' := kst 2) (by kernel_rfl)).mono ?_
        rintro e w3 ⟨rfl, hd, hf⟩
        have HD3 := Lib.hid hd
        have HG3 : Hid (Gr w w3) := Lib.hid (hf.gr ((HG.out.alloc _).alloc _) (Nat.le_refl _))
        clear hd hf
        go_wp2
        go_roundw
        case rel => exact ⟨2, by go_num, by omega, HD3, HG3⟩
        case measure => simp [intOf]
      · have hcv : (convert 30 9 (.slice (some ⟨wr.heap.size, 0, none⟩) 1 1)).run Try.prog (wr.alloc (.cells #[.int .u8 68] 5)) = .ok (.string ⟨#[68]⟩) (wr.alloc (.cells #[.int .u8 68] 5)) := conv1 wr 68
        go_wp2_with fail
        refine (append_to HD.out (((Gr.refl _).alloc _).alloc _) (⟨#[68]⟩ : ByteArray) (by decide) (l := [3]) (Rd.lit (g := wr.heap.size + 1) (heap_newn (by simp)) rfl (by decide)) (by decide) (fun g hg _ => .inr (by cases hg; simp)) (c := 0) (st' := kst 3) (by kernel_rfl)).mono ?_
        rintro e w3 ⟨rfl, hd, hf⟩
        have HD3 := Lib.hid hd
        have HG3 : Hid (Gr w w3) := Lib.hid (hf.gr ((HG.out.alloc _).alloc _) (Nat.le_refl _))
        clear hd hf
        go_wp2
        go_roundw
        case rel => exact ⟨3, by go_num, by omega, HD3, HG3⟩
        case measure => simp [intOf]
      · have hcv : (convert 30 9 (.slice (some ⟨wr.heap.size, 0, none⟩) 1 1)).run Try.prog (wr.alloc (.cells #[.int .u8 69] 5)) = .ok (.string ⟨#[69]⟩) (wr.alloc (.cells #[.int .u8 69] 5)) := conv1 wr 69
        go_wp2_with fail
        refine (append_to HD.out (((Gr.refl _).alloc _).alloc _) (⟨#[69]⟩ : ByteArray) (by decide) (l := [4]) (Rd.lit (g := wr.heap.size + 1) (heap_newn (by simp)) rfl (by decide)) (by decide) (fun g hg _ => .inr (by cases hg; simp)) (c := 0) (st' := kst 4) (by kernel_rfl)).mono ?_
        rintro e w3 ⟨rfl, hd, hf⟩
        have HD3 := Lib.hid hd
        have HG3 : Hid (Gr w w3) := Lib.hid (hf.gr ((HG.out.alloc _).alloc _) (Nat.le_refl _))
        clear hd hf
        go_wp2
        go_roundw
        case rel => exact ⟨4, by go_num, by omega, HD3, HG3⟩
        case measure => simp [intOf]
      · have hcv : (convert 30 9 (.slice (some ⟨wr.heap.size, 0, none⟩) 1 1)).run Try.prog (wr.alloc (.cells #[.int .u8 70] 5)) = .ok (.string ⟨#[70]⟩) (wr.alloc (.cells #[.int .u8 70] 5)) := conv1 wr 70
        go_wp2_with fail
        refine (append_to HD.out (((Gr.refl _).alloc _).alloc _) (⟨#[70]⟩ : ByteArray) (by decide) (l := [5]) (Rd.lit (g := wr.heap.size + 1) (heap_newn (by simp)) rfl (by decide)) (by decide) (fun g hg _ => .inr (by cases hg; simp)) (c := 0) (st' := kst 5) (by kernel_rfl)).mono ?_
        rintro e w3 ⟨rfl, hd, hf⟩
        have HD3 := Lib.hid hd
        have HG3 : Hid (Gr w w3) := Lib.hid (hf.gr ((HG.out.alloc _).alloc _) (Nat.le_refl _))
        clear hd hf
        go_wp2
        go_roundw
        case rel => exact ⟨5, by go_num, by omega, HD3, HG3⟩
        case measure => simp [intOf]
      · have hcv : (convert 30 9 (.slice (some ⟨wr.heap.size, 0, none⟩) 1 1)).run Try.prog (wr.alloc (.cells #[.int .u8 71] 5)) = .ok (.string ⟨#[71]⟩) (wr.alloc (.cells #[.int .u8 71] 5)) := conv1 wr 71
        go_wp2_with fail
        refine (append_to HD.out (((Gr.refl _).alloc _).alloc _) (⟨#[71]⟩ : ByteArray) (by decide) (l := [6]) (Rd.lit (g := wr.heap.size + 1) (heap_newn (by simp)) rfl (by decide)) (by decide) (fun g hg _ => .inr (by cases hg; simp)) (c := 0) (st' := kst 6) (by kernel_rfl)).mono ?_
        rintro e w3 ⟨rfl, hd, hf⟩
        have HD3 := Lib.hid hd
        have HG3 : Hid (Gr w w3) := Lib.hid (hf.gr ((HG.out.alloc _).alloc _) (Nat.le_refl _))
        clear hd hf
        go_wp2
        go_roundw
        case rel => exact ⟨6, by go_num, by omega, HD3, HG3⟩
        case measure => simp [intOf]
      · have hcv : (convert 30 9 (.slice (some ⟨wr.heap.size, 0, none⟩) 1 1)).run Try.prog (wr.alloc (.cells #[.int .u8 72] 5)) = .ok (.string ⟨#[72]⟩) (wr.alloc (.cells #[.int .u8 72] 5)) := conv1 wr 72
        go_wp2_with fail
        refine (append_to HD.out (((Gr.refl _).alloc _).alloc _) (⟨#[72]⟩ : ByteArray) (by decide) (l := [7]) (Rd.lit (g := wr.heap.size + 1) (heap_newn (by simp)) rfl (by decide)) (by decide) (fun g hg _ => .inr (by cases hg; simp)) (c := 0) (st' := kst 7) (by kernel_rfl)).mono ?_
        rintro e w3 ⟨rfl, hd, hf⟩
        have HD3 := Lib.hid hd
        have HG3 : Hid (Gr w w3) := Lib.hid (hf.gr ((HG.out.alloc _).alloc _) (Nat.le_refl _))
        clear hd hf
        go_wp2
        go_roundw
        case rel => exact ⟨7, by go_num, by omega, HD3, HG3⟩
        case measure => simp [intOf]
      · have hcv : (convert 30 9 (.slice (some ⟨wr.heap.size, 0, none⟩) 1 1)).run Try.prog (wr.alloc (.cells #[.int .u8 73] 5)) = .ok (.string ⟨#[73]⟩) (wr.alloc (.cells #[.int .u8 73] 5)) := conv1 wr 73
        go_wp2_with fail
        refine (append_to HD.out (((Gr.refl _).alloc _).alloc _) (⟨#[73]⟩ : ByteArray) (by decide) (l := [8]) (Rd.lit (g := wr.heap.size + 1) (heap_newn (by simp)) rfl (by decide)) (by decide) (fun g hg _ => .inr (by cases hg; simp)) (c := 0) (st' := kst 8) (by kernel_rfl)).mono ?_
        rintro e w3 ⟨rfl, hd, hf⟩
        have HD3 := Lib.hid hd
        have HG3 : Hid (Gr w w3) := Lib.hid (hf.gr ((HG.out.alloc _).alloc _) (Nat.le_refl _))
        clear hd hf
        go_wp2
        go_roundw
        case rel => exact ⟨8, by go_num, by omega, HD3, HG3⟩
        case measure => simp [intOf]
      · have hcv : (convert 30 9 (.slice (some ⟨wr.heap.size, 0, none⟩) 1 1)).run Try.prog (wr.alloc (.cells #[.int .u8 74] 5)) = .ok (.string ⟨#[74]⟩) (wr.alloc (.cells #[.int .u8 74] 5)) := conv1 wr 74
        go_wp2_with fail
        refine (append_to HD.out (((Gr.refl _).alloc _).alloc _) (⟨#[74]⟩ : ByteArray) (by decide) (l := [9]) (Rd.lit (g := wr.heap.size + 1) (heap_newn (by simp)) rfl (by decide)) (by decide) (fun g hg _ => .inr (by cases hg; simp)) (c := 0) (st' := kst 9) (by kernel_rfl)).mono ?_
        rintro e w3 ⟨rfl, hd, hf⟩
        have HD3 := Lib.hid hd
        have HG3 : Hid (Gr w w3) := Lib.hid (hf.gr ((HG.out.alloc _).alloc _) (Nat.le_refl _))
        clear hd hf
        go_wp2
        go_roundw
        case rel => exact ⟨9, by go_num, by omega, HD3, HG3⟩
        case measure => simp [intOf]
      · have hcv : (convert 30 9 (.slice (some ⟨wr.heap.size, 0, none⟩) 1 1)).run Try.prog (wr.alloc (.cells #[.int .u8 75] 5)) = .ok (.string ⟨#[75]⟩) (wr.alloc (.cells #[.int .u8 75] 5)) := conv1 wr 75
        go_wp2_with fail
        refine (append_to HD.out (((Gr.refl _).alloc _).alloc _) (⟨#[75]⟩ : ByteArray) (by decide) (l := [10]) (Rd.lit (g := wr.heap.size + 1) (heap_newn (by simp)) rfl (by decide)) (by decide) (fun g hg _ => .inr (by cases hg; simp)) (c := 0) (st' := kst 10) (by kernel_rfl)).mono ?_
        rintro e w3 ⟨rfl, hd, hf⟩
        have HD3 := Lib.hid hd
        have HG3 : Hid (Gr w w3) := Lib.hid (hf.gr ((HG.out.alloc _).alloc _) (Nat.le_refl _))
        clear hd hf
        go_wp2
        go_roundw
        case rel => exact ⟨10, by go_num, by omega, HD3, HG3⟩
        case measure => simp [intOf]
      · have hcv : (convert 30 9 (.slice (some ⟨wr.heap.size, 0, none⟩) 1 1)).run Try.prog (wr.alloc (.cells #[.int .u8 76] 5)) = .ok (.string ⟨#[76]⟩) (wr.alloc (.cells #[.int .u8 76] 5)) := conv1 wr 76
        go_wp2_with fail
        refine (append_to HD.out (((Gr.refl _).alloc _).alloc _) (⟨#[76]⟩ : ByteArray) (by decide) (l := [11]) (Rd.lit (g := wr.heap.size + 1) (heap_newn (by simp)) rfl (by decide)) (by decide) (fun g hg _ => .inr (by cases hg; simp)) (c := 0) (st' := kst 11) (by kernel_rfl)).mono ?_
        rintro e w3 ⟨rfl, hd, hf⟩
        have HD3 := Lib.hid hd
        have HG3 : Hid (Gr w w3) := Lib.hid (hf.gr ((HG.out.alloc _).alloc _) (Nat.le_refl _))
        clear hd hf
        go_wp2
        go_roundw
        case rel => exact ⟨11, by go_num, by omega, HD3, HG3⟩
        case measure => simp [intOf]
      · have hcv : (convert 30 9 (.slice (some ⟨wr.heap.size, 0, none⟩) 1 1)).run Try.prog (wr.alloc (.cells #[.int .u8 77] 5)) = .ok (.string ⟨#[77]⟩) (wr.alloc (.cells #[.int .u8 77] 5)) := conv1 wr 77
        go_wp2_with fail
        refine (append_to HD.out (((Gr.refl _).alloc _).alloc _) (⟨#[77]⟩ : ByteArray) (by decide) (l := [12]) (Rd.lit (g := wr.heap.size + 1) (heap_newn (by simp)) rfl (by decide)) (by decide) (fun g hg _ => .inr (by cases hg; simp)) (c := 0) (st' := kst 12) (by kernel_rfl)).mono ?_
        rintro e w3 ⟨rfl, hd, hf⟩
        have HD3 := Lib.hid hd
        have HG3 : Hid (Gr w w3) := Lib.hid (hf.gr ((HG.out.alloc _).alloc _) (Nat.le_refl _))
        clear hd hf
        go_wp2
        go_roundw
        case rel => exact ⟨12, by go_num, by omega, HD3, HG3⟩
        case measure => simp [intOf]
      · have hcv : (convert 30 9 (.slice (some ⟨wr.heap.size, 0, none⟩) 1 1)).run Try.prog (wr.alloc (.cells #[.int .u8 78] 5)) = .ok (.string ⟨#[78]⟩) (wr.alloc (.cells #[.int .u8 78] 5)) := conv1 wr 78
        go_wp2_with fail
        refine (append_to HD.out (((Gr.refl _).alloc _).alloc _) (⟨#[78]⟩ : ByteArray) (by decide) (l := [13]) (Rd.lit (g := wr.heap.size + 1) (heap_newn (by simp)) rfl (by decide)) (by decide) (fun g hg _ => .inr (by cases hg; simp)) (c := 0) (st' := kst 13) (by kernel_rfl)).mono ?_
        rintro e w3 ⟨rfl, hd, hf⟩
        have HD3 := Lib.hid hd
        have HG3 : Hid (Gr w w3) := Lib.hid (hf.gr ((HG.out.alloc _).alloc _) (Nat.le_refl _))
        clear hd hf
        go_wp2
        go_roundw
        case rel => exact ⟨13, by go_num, by omega, HD3, HG3⟩
        case measure => simp [intOf]
      · have hcv : (convert 30 9 (.slice (some ⟨wr.heap.size, 0, none⟩) 1 1)).run Try.prog (wr.alloc (.cells #[.int .u8 79] 5)) = .ok (.string ⟨#[79]⟩) (wr.alloc (.cells #[.int .u8 79] 5)) := conv1 wr 79
        go_wp2_with fail
        refine (append_to HD.out (((Gr.refl _).alloc _).alloc _) (⟨#[79]⟩ : ByteArray) (by decide) (l := [14]) (Rd.lit (g := wr.heap.size + 1) (heap_newn (by simp)) rfl (by decide)) (by decide) (fun g hg _ => .inr (by cases hg; simp)) (c := 0) (st' := kst 14) (by kernel_rfl)).mono ?_
        rintro e w3 ⟨rfl, hd, hf⟩
        have HD3 := Lib.hid hd
        have HG3 : Hid (Gr w w3) := Lib.hid (hf.gr ((HG.out.alloc _).alloc _) (Nat.le_refl _))
        clear hd hf
        go_wp2
        go_roundw
        case rel => exact ⟨14, by go_num, by omega, HD3, HG3⟩
        case measure => simp [intOf]
      · have hcv : (convert 30 9 (.slice (some ⟨wr.heap.size, 0, none⟩) 1 1)).run Try.prog (wr.alloc (.cells #[.int .u8 80] 5)) = .ok (.string ⟨#[80]⟩) (wr.alloc (.cells #[.int .u8 80] 5)) := conv1 wr 80
        go_wp2_with fail
        refine (append_to HD.out (((Gr.refl _).alloc _).alloc _) (⟨#[80]⟩ : ByteArray) (by decide) (l := [15]) (Rd.lit (g := wr.heap.size + 1) (heap_newn (by simp)) rfl (by decide)) (by decide) (fun g hg _ => .inr (by cases hg; simp)) (c := 0) (st' := kst 15) (by kernel_rfl)).mono ?_
        rintro e w3 ⟨rfl, hd, hf⟩
        have HD3 := Lib.hid hd
        have HG3 : Hid (Gr w w3) := Lib.hid (hf.gr ((HG.out.alloc _).alloc _) (Nat.le_refl _))
        clear hd hf
        go_wp2
        go_roundw
        case rel => exact ⟨15, by go_num, by omega, HD3, HG3⟩
        case measure => simp [intOf]
      · have hcv : (convert 30 9 (.slice (some ⟨wr.heap.size, 0, none⟩) 1 1)).run Try.prog (wr.alloc (.cells #[.int .u8 81] 5)) = .ok (.string ⟨#[81]⟩) (wr.alloc (.cells #[.int .u8 81] 5)) := conv1 wr 81
        go_wp2_with fail
        refine (append_to HD.out (((Gr.refl _).alloc _).alloc _) (⟨#[81]⟩ : ByteArray) (by decide) (l := [16]) (Rd.lit (g := wr.heap.size + 1) (heap_newn (by simp)) rfl (by decide)) (by decide) (fun g hg _ => .inr (by cases hg; simp)) (c := 0) (st' := kst 16) (by kernel_rfl)).mono ?_
        rintro e w3 ⟨rfl, hd, hf⟩
        have HD3 := Lib.hid hd
        have HG3 : Hid (Gr w w3) := Lib.hid (hf.gr ((HG.out.alloc _).alloc _) (Nat.le_refl _))
        clear hd hf
        go_wp2
        go_roundw
        case rel => exact ⟨16, by go_num, by omega, HD3, HG3⟩
        case measure => simp [intOf]
      · have hcv : (convert 30 9 (.slice (some ⟨wr.heap.size, 0, none⟩) 1 1)).run Try.prog (wr.alloc (.cells #[.int .u8 82] 5)) = .ok (.string ⟨#[82]⟩) (wr.alloc (.cells #[.int .u8 82] 5)) := conv1 wr 82
        go_wp2_with fail
        refine (append_to HD.out (((Gr.refl _).alloc _).alloc _) (⟨#[82]⟩ : ByteArray) (by decide) (l := [17]) (Rd.lit (g := wr.heap.size + 1) (heap_newn (by simp)) rfl (by decide)) (by decide) (fun g hg _ => .inr (by cases hg; simp)) (c := 0) (st' := kst 17) (by kernel_rfl)).mono ?_
        rintro e w3 ⟨rfl, hd, hf⟩
        have HD3 := Lib.hid hd
        have HG3 : Hid (Gr w w3) := Lib.hid (hf.gr ((HG.out.alloc _).alloc _) (Nat.le_refl _))
        clear hd hf
        go_wp2
        go_roundw
        case rel => exact ⟨17, by go_num, by omega, HD3, HG3⟩
        case measure => simp [intOf]
      · have hcv : (convert 30 9 (.slice (some ⟨wr.heap.size, 0, none⟩) 1 1)).run Try.prog (wr.alloc (.cells #[.int .u8 83] 5)) = .ok (.string ⟨#[83]⟩) (wr.alloc (.cells #[.int .u8 83] 5)) := conv1 wr 83
        go_wp2_with fail
        refine (append_to HD.out (((Gr.refl _).alloc _).alloc _) (⟨#[83]⟩ : ByteArray) (by decide) (l := [18]) (Rd.lit (g := wr.heap.size + 1) (heap_newn (by simp)) rfl (by decide)) (by decide) (fun g hg _ => .inr (by cases hg; simp)) (c := 0) (st' := kst 18) (by kernel_rfl)).mono ?_
        rintro e w3 ⟨rfl, hd, hf⟩
        have HD3 := Lib.hid hd
        have HG3 : Hid (Gr w w3) := Lib.hid (hf.gr ((HG.out.alloc _).alloc _) (Nat.le_refl _))
        clear hd hf
        go_wp2
        go_roundw
        case rel => exact ⟨18, by go_num, by omega, HD3, HG3⟩
        case measure => simp [intOf]
      · have hcv : (convert 30 9 (.slice (some ⟨wr.heap.size, 0, none⟩) 1 1)).run Try.prog (wr.alloc (.cells #[.int .u8 84] 5)) = .ok (.string ⟨#[84]⟩) (wr.alloc (.cells #[.int .u8 84] 5)) := conv1 wr 84
        go_wp2_with fail
        refine (append_to HD.out (((Gr.refl _).alloc _).alloc _) (⟨#[84]⟩ : ByteArray) (by decide) (l := [19]) (Rd.lit (g := wr.heap.size + 1) (heap_newn (by simp)) rfl (by decide)) (by decide) (fun g hg _ => .inr (by cases hg; simp)) (c := 0) (st' := kst 19) (by kernel_rfl)).mono ?_
        rintro e w3 ⟨rfl, hd, hf⟩
        have HD3 := Lib.hid hd
        have HG3 : Hid (Gr w w3) := Lib.hid (hf.gr ((HG.out.alloc _).alloc _) (Nat.le_refl _))
        clear hd hf
        go_wp2
        go_roundw
        case rel => exact ⟨19, by go_num, by omega, HD3, HG3⟩
        case measure => simp [intOf]
    · obtain rfl : k = 19 := by omega
      go_wp2_with fail
      refine (append_to HD.out (Gr.refl _) (⟨#[110, 101, 119]⟩ : ByteArray) (by decide) (l := []) (.inl ⟨rfl, none, 0, rfl, by decide, fun _ => rfl⟩) (by decide) (fun g hg _ => by cases hg) (c := 7) (st' := kst 19) (by kernel_rfl)).mono ?_
      rintro e w13 ⟨rfl, hd, hf⟩
      have HD13 := Lib.hid hd
      have HG13 : Hid (Gr w w13) := Lib.hid (hf.gr HG.out (Nat.le_refl _))
      clear hd hf
      have hmk : ∀ w : World, (Instr.makeSlice 30 (.int .i64 4194286) (.int .i64 4194286)).run Try.prog w = .ok (.slice (some ⟨w.heap.size, 0, none⟩) 4194286 4194286) (w.alloc (.cells (madeCells #[.int .u8 0] 4194286) 5)) := run_mk 4194286 (by decide)
      go_wp2_with fail
      refine (append_to HD13.out ((Gr.refl _).alloc _) (⟨#[66]⟩ : ByteArray) (by decide) (Rd.made (heap_newn rfl) (by decide)) (by rw [List.length_replicate]; decide) (fun g hg _ => .inr (by cases hg; exact Nat.le_refl _)) (c := 7) (st' := kst 19) (kBig_0 _ List.length_replicate)).mono ?_
      rintro e w14 ⟨rfl, hd, hf⟩
      have HD14 := Lib.hid hd
      have HG14 : Hid (Gr w w14) := Lib.hid (hf.gr (HG13.out.alloc _) (Nat.le_refl _))
      clear hd hf
      clear hmk
      have hmk : ∀ w : World, (Instr.makeSlice 30 (.int .i64 4194285) (.int .i64 4194285)).run Try.prog w = .ok (.slice (some ⟨w.heap.size, 0, none⟩) 4194285 4194285) (w.alloc (.cells (madeCells #[.int .u8 0] 4194285) 5)) := run_mk 4194285 (by decide)
      go_wp2_with fail
      refine (append_to HD14.out ((Gr.refl _).alloc _) (⟨#[66]⟩ : ByteArray) (by decide) (Rd.made (heap_newn rfl) (by decide)) (by rw [List.length_replicate]; decide) (fun g hg _ => .inr (by cases hg; exact Nat.le_refl _)) (c := 0) (st' := kBig (List.replicate 4194285 0)) (kBig_1 _ List.length_replicate)).mono ?_
      rintro e w15 ⟨rfl, hd, hf⟩
      have HD15 := Lib.hid hd
      have HG15 : Hid (Gr w w15) := Lib.hid (hf.gr (HG14.out.alloc _) (Nat.le_refl _))
      clear hd hf
      clear hmk
      have HBL : Hid ((List.replicate 4194285 (0 : UInt8)).length = 4194285) := Lib.hid List.length_replicate
      generalize List.replicate 4194285 (0 : UInt8) = BL at *
      go_wp2_with fail
      refine (append_to HD15.out ((Gr.refl _).alloc _) (⟨#[66]⟩ : ByteArray) (by decide) (l := [1]) (Rd.lit (heap_newn rfl) rfl (by decide)) (by decide) (fun g hg _ => .inr (by cases hg; exact Nat.le_refl _)) (c := 7) (st' := kBig BL) (kBig_2 _ HBL.out)).mono ?_
      rintro e w16 ⟨rfl, hd, hf⟩
      have HD16 := Lib.hid hd
      have HG16 : Hid (Gr w w16) := Lib.hid (hf.gr (HG15.out.alloc _) (Nat.le_refl _))
      clear hd hf
      go_wp2_with fail
      refine (remove_to HD16.out (Gr.refl _) (⟨#[66]⟩ : ByteArray) (by decide) (c := 0) (st' := k18) (kBig_3 _)).mono ?_
      rintro e w17 ⟨rfl, hd, hf⟩
      have HD17 := Lib.hid hd
      have HG17 : Hid (Gr w w17) := Lib.hid (hf.gr HG16.out (Nat.le_refl _))
      clear hd hf
      go_wp2_with fail
      refine (append_to HD17.out (Gr.refl _) (⟨#[110, 101, 119]⟩ : ByteArray) (by decide) (l := []) (.inl ⟨rfl, none, 0, rfl, by decide, fun _ => rfl⟩) (by decide) (fun g hg _ => by cases hg) (c := 0) (st' := kN) (by kernel_rfl)).mono ?_
      rintro e w18 ⟨rfl, hd, hf⟩
      have HD18 := Lib.hid hd
      have HG18 : Hid (Gr w w18) := Lib.hid (hf.gr HG17.out (Nat.le_refl _))
      clear hd hf
      go_wp2_with fail
      refine (names_dk HD18.out (Gr.refl _)).mono ?_
      rintro e w19 ⟨vn, rfl, hrow, hg⟩
      obtain ⟨qn, cn, rfl⟩ := ownsRow_form hrow
      have HD19 := Lib.hid (HD18.out.gr hg)
      have HG19 : Hid (Gr w w19) := Lib.hid (HG18.out.trans hg)
      clear hg hrow
      have hnl : (kN).names.length = 20 := by kernel_rfl
      rw [hnl]
      have hls19 := fun W ty => len_strs (w := W) (q := qn) (n := 20) (c := cn) (ty := ty)
      clear hnl
      go_wp2_with fail
      refine (turn_to HD19.out (Gr.refl _) (⟨#[67]⟩ : ByteArray) (by decide) (0) (1) (c := 0) (st' := kT) (by kernel_rfl)).mono ?_
      rintro e w20 ⟨rfl, hd, hf⟩
      have HD20 := Lib.hid hd
      have HG20 : Hid (Gr w w20) := Lib.hid (hf.gr HG19.out (Nat.le_refl _))
      clear hd hf
      go_wp2_with fail
      refine (has_to HD20.out ((Gr.refl _).alloc _) (⟨#[67]⟩ : ByteArray) (by decide) (l := [0]) (Rd.lit (heap_newn rfl) rfl (by decide)) (by kernel_rfl)).mono ?_
      rintro e w21 ⟨rfl, hg⟩
      have HD21 := Lib.hid (HD20.out.gr (((Gr.refl _).alloc _).trans hg))
      have HG21 : Hid (Gr w w21) := Lib.hid (HG20.out.trans (((Gr.refl _).alloc _).trans hg))
      clear hg
      go_wp2_with fail
      refine (turn_to HD21.out (Gr.refl _) (⟨#[67]⟩ : ByteArray) (by decide) (1) (0) (c := 9) (st' := kT) (by kernel_rfl)).mono ?_
      rintro e w22 ⟨rfl, hd, hf⟩
      have HD22 := Lib.hid hd
      have HG22 : Hid (Gr w w22) := Lib.hid (hf.gr HG21.out (Nat.le_refl _))
      clear hd hf
      go_wp2_with fail
      refine (turn_to HD22.out (Gr.refl _) (⟨#[67]⟩ : ByteArray) (by decide) (0) (8) (c := 9) (st' := kT) (by kernel_rfl)).mono ?_
      rintro e w23 ⟨rfl, hd, hf⟩
      have HD23 := Lib.hid hd
      have HG23 : Hid (Gr w w23) := Lib.hid (hf.gr HG22.out (Nat.le_refl _))
      clear hd hf
      go_wp2_with fail
      refine (turn_to HD23.out (Gr.refl _) (⟨#[67]⟩ : ByteArray) (by decide) (-1) (0) (c := 9) (st' := kT) (by kernel_rfl)).mono ?_
      rintro e w24 ⟨rfl, hd, hf⟩
      have HD24 := Lib.hid hd
      have HG24 : Hid (Gr w w24) := Lib.hid (hf.gr HG23.out (Nat.le_refl _))
      clear hd hf
      go_wp2_with fail
      refine (turn_to HD24.out (Gr.refl _) (⟨#[67]⟩ : ByteArray) (by decide) (0) (-1) (c := 9) (st' := kT) (by kernel_rfl)).mono ?_
      rintro e w25 ⟨rfl, hd, hf⟩
      have HD25 := Lib.hid hd
      have HG25 : Hid (Gr w w25) := Lib.hid (hf.gr HG24.out (Nat.le_refl _))
      clear hd hf
      go_wp2_with fail
      refine (turn_to HD25.out (Gr.refl _) LB (by rw [HLs.out]; decide) (0) (0) (c := 9) (st' := kT) (by rw [HL.out]; kernel_rfl)).mono ?_
      rintro e w26 ⟨rfl, hd, hf⟩
      have HD26 := Lib.hid hd
      have HG26 : Hid (Gr w w26) := Lib.hid (hf.gr HG25.out (Nat.le_refl _))
      clear hd hf
      go_wp2_with fail
      refine (crash_to HD26.out ((Gr.refl _).alloc _) (kl := [-1, -1]) (RdI.lit (heap_newn rfl) rfl (by decide) (by decide)) (by decide) (fun g hg _ => .inr (by cases hg; exact Nat.le_refl _)) (st' := kC) (by kernel_rfl)).mono ?_
      rintro e w27 ⟨rfl, hd, hf⟩
      have HD27 := Lib.hid hd
      have HG27 : Hid (Gr w w27) := Lib.hid (hf.gr (HG26.out.alloc _) (Nat.le_refl _))
      clear hd hf
      go_wp2_with fail
      refine (append_to HD27.out (Gr.refl _) (⟨#[67]⟩ : ByteArray) (by decide) (l := []) (.inl ⟨rfl, none, 0, rfl, by decide, fun _ => rfl⟩) (by decide) (fun g hg _ => by cases hg) (c := 71) (st' := kC) (by kernel_rfl)).mono ?_
      rintro e w28 ⟨rfl, hd, hf⟩
      have HD28 := Lib.hid hd
      have HG28 : Hid (Gr w w28) := Lib.hid (hf.gr HG27.out (Nat.le_refl _))
      clear hd hf
      go_wp2_with fail
      refine (append_to HD28.out (Gr.refl _) (⟨#[]⟩ : ByteArray) (by decide) (l := []) (.inl ⟨rfl, none, 0, rfl, by decide, fun _ => rfl⟩) (by decide) (fun g hg _ => by cases hg) (c := 71) (st' := kC) (by kernel_rfl)).mono ?_
      rintro e w29 ⟨rfl, hd, hf⟩
      have HD29 := Lib.hid hd
      have HG29 : Hid (Gr w w29) := Lib.hid (hf.gr HG28.out (Nat.le_refl _))
      clear hd hf
      go_wp2_with fail
      refine (sync_to HD29.out (Gr.refl _) (⟨#[110, 111, 110, 101]⟩ : ByteArray) (by decide) (c := 71) (st' := kC) (by kernel_rfl)).mono ?_
      rintro e w30 ⟨rfl, hd, hf⟩
      have HD30 := Lib.hid hd
      have HG30 : Hid (Gr w w30) := Lib.hid (hf.gr HG29.out (Nat.le_refl _))
      clear hd hf
      go_wp2_with fail
      refine (cut_to HD30.out (Gr.refl _) (⟨#[67]⟩ : ByteArray) (by decide) (0) (by decide) (c := 71) (st' := kC) (by kernel_rfl)).mono ?_
      rintro e w31 ⟨rfl, hd, hf⟩
      have HD31 := Lib.hid hd
      have HG31 : Hid (Gr w w31) := Lib.hid (hf.gr HG30.out (Nat.le_refl _))
      clear hd hf
      go_wp2_with fail
      refine (rename_to HD31.out (Gr.refl _) (⟨#[67]⟩ : ByteArray) (⟨#[68]⟩ : ByteArray) (by decide) (by decide) (c := 71) (st' := kC) (by kernel_rfl)).mono ?_
      rintro e w32 ⟨rfl, hd, hf⟩
      have HD32 := Lib.hid hd
      have HG32 : Hid (Gr w w32) := Lib.hid (hf.gr HG31.out (Nat.le_refl _))
      clear hd hf
      go_wp2_with fail
      refine (remove_to HD32.out (Gr.refl _) (⟨#[67]⟩ : ByteArray) (by decide) (c := 71) (st' := kC) (by kernel_rfl)).mono ?_
      rintro e w33 ⟨rfl, hd, hf⟩
      have HD33 := Lib.hid hd
      have HG33 : Hid (Gr w w33) := Lib.hid (hf.gr HG32.out (Nat.le_refl _))
      clear hd hf
      go_wp2_with fail
      refine (turn_to HD33.out (Gr.refl _) (⟨#[67]⟩ : ByteArray) (by decide) (0) (0) (c := 71) (st' := kC) (by kernel_rfl)).mono ?_
      rintro e w34 ⟨rfl, hd, hf⟩
      have HD34 := Lib.hid hd
      have HG34 : Hid (Gr w w34) := Lib.hid (hf.gr HG33.out (Nat.le_refl _))
      clear hd hf
      go_wp2_with fail
      refine (names_dk HD34.out (Gr.refl _)).mono ?_
      rintro e w35 ⟨vn, rfl, hrow, hg⟩
      obtain ⟨qn, cn, rfl⟩ := ownsRow_form hrow
      have HD35 := Lib.hid (HD34.out.gr hg)
      have HG35 : Hid (Gr w w35) := Lib.hid (HG34.out.trans hg)
      clear hg hrow
      have hnl : (kC).names.length = 0 := by kernel_rfl
      rw [hnl]
      have hls35 := fun W ty => len_strs (w := W) (q := qn) (n := 0) (c := cn) (ty := ty)
      clear hnl
      go_wp2_with fail
      refine (dead_dk HD35.out (Gr.refl _)).mono ?_
      rintro e w9999 ⟨rfl, rfl⟩
      rw [show (kC).dead = true by kernel_rfl]
      go_wp2_with fail
      refine (crash_to HD35.out ((Gr.refl _).alloc _) (kl := [9]) (RdI.lit (heap_newn rfl) rfl (by decide) (by decide)) (by decide) (fun g hg _ => .inr (by cases hg; exact Nat.le_refl _)) (st' := kC) (by kernel_rfl)).mono ?_
      rintro e w36 ⟨rfl, hd, hf⟩
      have HD36 := Lib.hid hd
      have HG36 : Hid (Gr w w36) := Lib.hid (hf.gr (HG35.out.alloc _) (Nat.le_refl _))
      clear hd hf
      go_wp2_with fail
      refine (fail_to HD36.out (Gr.refl _) (0) (by decide) (kl := []) (.inl ⟨rfl, none, 0, rfl, by decide, fun _ => rfl⟩) (by decide) (by simp) (st' := kC) (by kernel_rfl)).mono ?_
      rintro e w37 ⟨rfl, hd, hf⟩
      have HD37 := Lib.hid hd
      have HG37 : Hid (Gr w w37) := Lib.hid (hf.gr HG36.out (Nat.le_refl _))
      clear hd hf
      go_wp2_with fail
      refine (boot_to HD37.out (Gr.refl _) (st' := kB) (by kernel_rfl)).mono ?_
      rintro e w38 ⟨rfl, hd, hf⟩
      have HD38 := Lib.hid hd
      have HG38 : Hid (Gr w w38) := Lib.hid (hf.gr HG37.out (Nat.le_refl _))
      clear hd hf
      go_wp2_with fail
      refine (boot_to HD38.out (Gr.refl _) (st' := kB) (by kernel_rfl)).mono ?_
      rintro e w39 ⟨rfl, hd, hf⟩
      have HD39 := Lib.hid hd
      have HG39 : Hid (Gr w w39) := Lib.hid (hf.gr HG38.out (Nat.le_refl _))
      clear hd hf
      go_wp2_with fail
      refine (dead_dk HD39.out (Gr.refl _)).mono ?_
      rintro e w9999 ⟨rfl, rfl⟩
      rw [show (kB).dead = false by kernel_rfl]
      go_wp2_with fail
      refine (names_dk HD39.out (Gr.refl _)).mono ?_
      rintro e w40 ⟨vn, rfl, hrow, hg⟩
      obtain ⟨qn, cn, rfl⟩ := ownsRow_form hrow
      have HD40 := Lib.hid (HD39.out.gr hg)
      have HG40 : Hid (Gr w w40) := Lib.hid (HG39.out.trans hg)
      clear hg hrow
      have hnl : (kB).names.length = 20 := by kernel_rfl
      rw [hnl]
      have hls40 := fun W ty => len_strs (w := W) (q := qn) (n := 20) (c := cn) (ty := ty)
      clear hnl
      go_wp2_with fail
      refine (has_to HD40.out ((Gr.refl _).alloc _) (⟨#[67]⟩ : ByteArray) (by decide) (l := [0]) (Rd.lit (heap_newn rfl) rfl (by decide)) (by kernel_rfl)).mono ?_
      rintro e w41 ⟨rfl, hg⟩
      have HD41 := Lib.hid (HD40.out.gr (((Gr.refl _).alloc _).trans hg))
      have HG41 : Hid (Gr w w41) := Lib.hid (HG40.out.trans (((Gr.refl _).alloc _).trans hg))
      clear hg
      go_wp2_with fail
      refine (has_to HD41.out (Gr.refl _) (⟨#[69]⟩ : ByteArray) (by decide) (l := []) (.inl ⟨rfl, none, 0, rfl, by decide, fun _ => rfl⟩) (by kernel_rfl)).mono ?_
      rintro e w42 ⟨rfl, hg⟩
      have HD42 := Lib.hid (HD41.out.gr ((Gr.refl _).trans hg))
      have HG42 : Hid (Gr w w42) := Lib.hid (HG41.out.trans ((Gr.refl _).trans hg))
      clear hg
      go_wp2_with fail
      refine (append_to HD42.out ((Gr.refl _).alloc _) (⟨#[67]⟩ : ByteArray) (by decide) (l := [1]) (Rd.lit (heap_newn rfl) rfl (by decide)) (by decide) (fun g hg _ => .inr (by cases hg; exact Nat.le_refl _)) (c := 0) (st' := kE) (by kernel_rfl)).mono ?_
      rintro e w43 ⟨rfl, hd, hf⟩
      have HD43 := Lib.hid hd
      have HG43 : Hid (Gr w w43) := Lib.hid (hf.gr (HG42.out.alloc _) (Nat.le_refl _))
      clear hd hf
      clear HL HL1 HLs HL1s
      go_wp2_with fail
      refine (new_dk _).mono ?_
      rintro e w44 ⟨d2, rfl, hd, hg⟩
      have HD44 := Lib.hid hd
      have HG44 := Lib.hid (HG43.out.trans hg)
      have HN2 : Hid (w.heap.size ≤ w43.heap.size) := Lib.hid HG43.out.size
      clear hd hg
      generalize w43.heap.size = N2 at *
      go_wp2_with fail
      refine (append_to HD44.out ((Gr.refl _).alloc _) (⟨#[97]⟩ : ByteArray) (by decide) (l := [1, 2, 3]) (Rd.lit (heap_newn rfl) rfl (by decide)) (by decide) (fun g hg _ => .inr (by cases hg; exact Nat.le_refl _)) (c := 0) (st' := q1) (by kernel_rfl)).mono ?_
      rintro e w45 ⟨rfl, hd, hf⟩
      have HD45 := Lib.hid hd
      have HG45 : Hid (Gr w w45) := Lib.hid (hf.gr (HG44.out.alloc _) HN2.out)
      clear hd hf
      go_wp2_with fail
      refine (sync_to HD45.out (Gr.refl _) (⟨#[97]⟩ : ByteArray) (by decide) (c := 0) (st' := q2) (by kernel_rfl)).mono ?_
      rintro e w46 ⟨rfl, hd, hf⟩
      have HD46 := Lib.hid hd
      have HG46 : Hid (Gr w w46) := Lib.hid (hf.gr HG45.out HN2.out)
      clear hd hf
      go_wp2_with fail
      refine (cut_to HD46.out (Gr.refl _) (⟨#[97]⟩ : ByteArray) (by decide) (1) (by decide) (c := 0) (st' := q3) (by kernel_rfl)).mono ?_
      rintro e w47 ⟨rfl, hd, hf⟩
      have HD47 := Lib.hid hd
      have HG47 : Hid (Gr w w47) := Lib.hid (hf.gr HG46.out HN2.out)
      clear hd hf
      go_wp2_with fail
      refine (append_to HD47.out ((Gr.refl _).alloc _) (⟨#[97]⟩ : ByteArray) (by decide) (l := [4, 5]) (Rd.lit (heap_newn rfl) rfl (by decide)) (by decide) (fun g hg _ => .inr (by cases hg; exact Nat.le_refl _)) (c := 0) (st' := q4) (by kernel_rfl)).mono ?_
      rintro e w48 ⟨rfl, hd, hf⟩
      have HD48 := Lib.hid hd
      have HG48 : Hid (Gr w w48) := Lib.hid (hf.gr (HG47.out.alloc _) HN2.out)
      clear hd hf
      go_wp2_with fail
      refine (crash_to HD48.out (Gr.refl _) (kl := []) (.inl ⟨rfl, none, 0, rfl, by decide, fun _ => rfl⟩) (by simp) (fun g hg _ => by cases hg) (st' := q5) (by kernel_rfl)).mono ?_
      rintro e w49 ⟨rfl, hd, hf⟩
      have HD49 := Lib.hid hd
      have HG49 : Hid (Gr w w49) := Lib.hid (hf.gr HG48.out HN2.out)
      clear hd hf
      go_wp2_with fail
      refine (boot_to HD49.out (Gr.refl _) (st' := q6) (by kernel_rfl)).mono ?_
      rintro e w50 ⟨rfl, hd, hf⟩
      have HD50 := Lib.hid hd
      have HG50 : Hid (Gr w w50) := Lib.hid (hf.gr HG49.out HN2.out)
      clear hd hf
      go_wp2_with fail
      refine (has_to HD50.out ((Gr.refl _).alloc _) (⟨#[97]⟩ : ByteArray) (by decide) (l := [1]) (Rd.lit (heap_newn rfl) rfl (by decide)) (by kernel_rfl)).mono ?_
      rintro e w51 ⟨rfl, hg⟩
      have HD51 := Lib.hid (HD50.out.gr (((Gr.refl _).alloc _).trans hg))
      have HG51 : Hid (Gr w w51) := Lib.hid (HG50.out.trans (((Gr.refl _).alloc _).trans hg))
      clear hg
      go_wp2_with fail
      refine (fail_to HD51.out ((Gr.refl _).alloc _) (0) (by decide) (kl := [0]) (RdI.lit (heap_newn rfl) rfl (by decide) (by decide)) (by decide) (by decide) (st' := q7) (by kernel_rfl)).mono ?_
      rintro e w52 ⟨rfl, hd, hf⟩
      have HD52 := Lib.hid hd
      have HG52 : Hid (Gr w w52) := Lib.hid (hf.gr (HG51.out.alloc _) HN2.out)
      clear hd hf
      go_wp2_with fail
      refine (fail_to HD52.out (Gr.refl _) (-5) (by decide) (kl := []) (.inl ⟨rfl, none, 0, rfl, by decide, fun _ => rfl⟩) (by decide) (by simp) (st' := q8) (by kernel_rfl)).mono ?_
      rintro e w53 ⟨rfl, hd, hf⟩
      have HD53 := Lib.hid hd
      have HG53 : Hid (Gr w w53) := Lib.hid (hf.gr HG52.out HN2.out)
      clear hd hf
      go_wp2_with fail
      refine (sync_to HD53.out (Gr.refl _) (⟨#[97]⟩ : ByteArray) (by decide) (c := 0) (st' := (q8.sync [97]).2) (by kernel_rfl)).mono ?_
      rintro e w54 ⟨rfl, hd, hf⟩
      have HD54 := Lib.hid hd
      have HG54 : Hid (Gr w w54) := Lib.hid (hf.gr HG53.out HN2.out)
      clear hd hf
      go_wp2
      go_loopw [12, 13] (fun v iv wr => ∃ k : Nat, iv = .int .i64 k ∧ k ≤ 2 ∧ NoD wr v ∧ Gr w wr) (fun _ iv _ => 2 - (intOf iv).toNat)
      case atStart => exact ⟨0, rfl, by omega, .inl rfl, HG54.out⟩
      case round =>
        obtain ⟨k, rfl, hk, hno, hg⟩ := hrel
        have HNO := Lib.hid hno
        have HGk := Lib.hid hg
        clear hno hg
        by_cases hk2 : k < 2
        · have hk3 : (k : Int) < 2 := by omega
          have hlsn := fun W ty => len_strs (w := W) (q := none) (n := 0) (c := 0) (ty := ty)
          go_wp2_with fail
          refine (crash_no (HNO.out.gr (Gr.refl _)) _).mono ?_
          rintro e v1 ⟨rfl, hg⟩
          have HV1 := Lib.hid (Gr.trans (Gr.refl _) hg)
          clear hg
          go_wp2_with fail
          refine (fail_no (HNO.out.gr HV1.out) _ _).mono ?_
          rintro e v2 ⟨rfl, hg⟩
          have HV2 := Lib.hid (Gr.trans HV1.out hg)
          clear hg
          go_wp2_with fail
          refine (boot_no (HNO.out.gr HV2.out) ).mono ?_
          rintro e v3 ⟨rfl, hg⟩
          have HV3 := Lib.hid (Gr.trans HV2.out hg)
          clear hg
          go_wp2_with fail
          refine (read_no (HNO.out.gr HV3.out) _).mono ?_
          rintro e v4 ⟨rfl, hg⟩
          have HV4 := Lib.hid (Gr.trans HV3.out hg)
          clear hg
          go_wp2_with fail
          refine (size_no (HNO.out.gr HV4.out) _).mono ?_
          rintro e v5 ⟨rfl, hg⟩
          have HV5 := Lib.hid (Gr.trans HV4.out hg)
          clear hg
          go_wp2_with fail
          refine (append_no (HNO.out.gr HV5.out) _).mono ?_
          rintro e v6 ⟨rfl, hg⟩
          have HV6 := Lib.hid (Gr.trans HV5.out hg)
          clear hg
          go_wp2_with fail
          refine (sync_no (HNO.out.gr HV6.out) _).mono ?_
          rintro e v7 ⟨rfl, hg⟩
          have HV7 := Lib.hid (Gr.trans HV6.out hg)
          clear hg
          go_wp2_with fail
          refine (cut_no (HNO.out.gr HV7.out) _ _).mono ?_
          rintro e v8 ⟨rfl, hg⟩
          have HV8 := Lib.hid (Gr.trans HV7.out hg)
          clear hg
          go_wp2_with fail
          refine (rename_no (HNO.out.gr HV8.out) _ _).mono ?_
          rintro e v9 ⟨rfl, hg⟩
          have HV9 := Lib.hid (Gr.trans HV8.out hg)
          clear hg
          go_wp2_with fail
          refine (remove_no (HNO.out.gr HV9.out) _).mono ?_
          rintro e v10 ⟨rfl, hg⟩
          have HV10 := Lib.hid (Gr.trans HV9.out hg)
          clear hg
          go_wp2_with fail
          refine (names_no (HNO.out.gr HV10.out) ).mono ?_
          rintro e v11 ⟨rfl, hg⟩
          have HV11 := Lib.hid (Gr.trans HV10.out hg)
          clear hg
          go_wp2_with fail
          refine (dead_no (HNO.out.gr HV11.out) ).mono ?_
          rintro e v12 ⟨rfl, hg⟩
          have HV12 := Lib.hid (Gr.trans HV11.out hg)
          clear hg
          go_wp2_with fail
          refine (turn_no (HNO.out.gr HV12.out) _ _ _).mono ?_
          rintro e v13 ⟨rfl, hg⟩
          have HV13 := Lib.hid (Gr.trans HV12.out hg)
          clear hg
          go_wp2
          go_roundw
          case rel => exact ⟨k + 1, by go_num, by omega, .inr ⟨_, rfl, heap_newn rfl⟩, (HGk.out.trans HV13.out).alloc _⟩
          case measure => simp [intOf]; omega
        · obtain rfl : k = 2 := by omega
          go_wp2_with (go_at_call 9; refine (works_any _).mono ?_; rintro e v1 ⟨rfl, hg1⟩)
          go_ret
          exact ⟨rfl, HGk.out.trans hg1⟩
end Go.Proofs.Ytadbcikabpbogaa
