/- What the rows stand on, part 17: CelO. Printed by bundle.py out of my texts. -/
import Derived.Test.YthgecojbggoniaaGreatDoorBe01
import Derived.Test.YthgecojbggoniaaGreatDoorBe06
import Derived.Test.YthgecojbggoniaaGreatDoorBe16
import Derived.Laws.StructEq
namespace Go.Proofs.YthgecojbggoniaaGreatDoor
open Go.RowKit
set_option maxRecDepth 100000
set_option linter.unusedVariables false
set_option linter.unusedSimpArgs false

theorem isId_any (n : Int) (w : World) : Calls Tryz.prog 135 #[.int .i64 n] w fun e w' => e = .returned (.bool (idB n)) ∧ w = w' := by
  have hU : Hid (idB n = (decide (1 ≤ n) && decide (n ≤ 9007199254740991))) := Lib.hid rfl
  by_cases h1 : 1 ≤ n
  · by_cases h2 : n ≤ 9007199254740991
    · go_enter Tryz.func135, Tryz.ntmps135
      go_wp2
      go_ret
      exact ⟨by rw [hU.out]; exact ret_bool (by simp [h1, h2]), rfl⟩
    · have h3 : decide (n ≤ 9007199254740991) = false := by simpa using h2
      go_enter Tryz.func135, Tryz.ntmps135
      go_wp2
      go_ret
      exact ⟨by rw [hU.out]; exact ret_bool (by simp [h1, h3]), rfl⟩
  · have h3 : decide (1 ≤ n) = false := by simpa using h1
    go_enter Tryz.func135, Tryz.ntmps135
    go_wp2
    go_ret
    exact ⟨by rw [hU.out]; exact ret_bool (by simp [h3]), rfl⟩

theorem headFn_any (a b : Int) (w : World) : Calls Tryz.prog 136 #[.agg #[.int .i64 a, .int .i64 b]] w fun e w' => e = .returned (.bool (!mayB a b)) ∧ Gr w w' := by
  have hck : ∀ w, Calls Tryz.prog 61 #[.agg #[.int .i64 a, .int .i64 b]] w fun e w' => e = .returned (.int .i64 (stampCk a b)) ∧ Gr w w' := fun w => stampCheck_ck a b w
  have H := Lib.hid hck
  clear hck
  have hX := heap_alloc_new w (.cells #[.int .i64 a, .int .i64 b] 26)
  obtain ⟨k_0, k_1, g_0, g_1, l_0⟩ := blk2 hX
  clear hX
  cases h : mayB a b with
  | true =>
    have hs : stampCk a b = 0 := by simp [stampCk, h]
    go_enter Tryz.func136, Tryz.ntmps136
    go_wp2_with (go_at_call 61; refine (H.out _).mono ?_; rintro e w1 ⟨rfl, hg1⟩)
    go_ret
    exact ⟨rfl, (by repeat (first | (with_reducible exact Gr.refl _) | (with_reducible assumption) | (with_reducible refine Gr.alloc ?_ _) | (with_reducible refine Gr.drew ?_) | (with_reducible refine Gr.drewN ?_ _) | (with_reducible refine Gr.trans ?_ (by assumption)) | (with_reducible refine Gr.setCell ?_ (by first | exact Nat.le_refl _ | omega | (simp; done) | (simp; omega)) _)))⟩
  | false =>
    have hs : stampCk a b = 9 := by simp [stampCk, h]
    go_enter Tryz.func136, Tryz.ntmps136
    go_wp2_with (go_at_call 61; refine (H.out _).mono ?_; rintro e w1 ⟨rfl, hg1⟩)
    go_ret
    exact ⟨rfl, (by repeat (first | (with_reducible exact Gr.refl _) | (with_reducible assumption) | (with_reducible refine Gr.alloc ?_ _) | (with_reducible refine Gr.drew ?_) | (with_reducible refine Gr.drewN ?_ _) | (with_reducible refine Gr.trans ?_ (by assumption)) | (with_reducible refine Gr.setCell ?_ (by first | exact Nat.le_refl _ | omega | (simp; done) | (simp; omega)) _)))⟩

theorem stamps_cell {w : World} {bl : Nat} {ps : List (Int × Int)} (h : w.heap[bl]? = some (.cells (stampsCells ps).toArray 26)) {k : Nat} (hk : k < ps.length) :
    w.cell? ⟨bl, k * 2, none⟩ = some (.int .i64 ps[k].1) ∧ w.cell? ⟨bl, k * 2 + 1, none⟩ = some (.int .i64 ps[k].2) := by
  obtain ⟨x1, x2⟩ := stampsCells_get ps k hk
  exact ⟨by simp only [World.cell?, h]; simpa using x1, by simp only [World.cell?, h]; simpa using x2⟩

set_option maxHeartbeats 1000000 in
theorem indexFn_any {w : World} (bl c : Nat) (ps : List (Int × Int)) (hbl : w.heap[bl]? = some (.cells (stampsCells ps).toArray 26)) (hlen : ps.length ≤ 1000000) :
    Calls Tryz.prog 87 #[.slice (some ⟨bl, 0, none⟩) ps.length c, .func (.func 136) #[] #[]] w fun e w' => ∃ z : Int, e = .returned (.int .i64 z) ∧ Hid (decide (0 ≤ z) = !(ps.all fun p => mayB p.1 p.2)) ∧ Gr w w' := by
  have HB := Lib.hid hbl
  have hlt : bl < w.heap.size := (Array.getElem?_eq_some_iff.1 hbl).1
  clear hbl
  go_enter Tryz.func87, Tryz.ntmps87
  go_wp2
  go_loopw [8] (fun i wr => ∃ k : Nat, k ≤ ps.length ∧ i = .int .i64 k ∧ Hid ((ps.take k).all (fun p => mayB p.1 p.2) = true) ∧ Gr w wr) (fun i _ => ps.length - (intOf i).toNat)
  case atStart => exact ⟨0, Nat.zero_le _, rfl, Lib.hid rfl, (by repeat (first | (with_reducible exact Gr.refl _) | (with_reducible assumption) | (with_reducible refine Gr.alloc ?_ _) | (with_reducible refine Gr.drew ?_) | (with_reducible refine Gr.drewN ?_ _) | (with_reducible refine Gr.trans ?_ (by assumption)) | (with_reducible refine Gr.setCell ?_ (by first | exact Nat.le_refl _ | omega | (simp; done) | (simp; omega)) _)))⟩
  case round =>
    obtain ⟨k, hk, rfl, HP, hg⟩ := hrel
    by_cases hlt2 : k < ps.length
    · obtain ⟨c1, c2⟩ := stamps_cell (hg.blk HB.out) hlt2
      cases hm : mayB ps[k].1 ps[k].2 with
      | true =>
        have HM := Lib.hid hm
        clear hm
        go_wp2_with (go_at_call 136; refine (headFn_any _ _ _).mono ?_; rintro e w1 ⟨rfl, hg1⟩; have hm := HM.out)
        go_roundw
        case rel => exact ⟨k + 1, by omega, by go_num, Lib.hid (by rw [List.take_succ_eq_append_getElem hlt2, List.all_append, HP.out]; simp [HM.out]), (by repeat (first | (with_reducible exact Gr.refl _) | (with_reducible assumption) | (with_reducible refine Gr.alloc ?_ _) | (with_reducible refine Gr.drew ?_) | (with_reducible refine Gr.drewN ?_ _) | (with_reducible refine Gr.trans ?_ (by assumption)) | (with_reducible refine Gr.setCell ?_ (by first | exact Nat.le_refl _ | omega | (simp; done) | (simp; omega)) _)))⟩
        case measure => simp [intOf]; omega
      | false =>
        have HM := Lib.hid hm
        clear hm
        go_wp2_with (go_at_call 136; refine (headFn_any _ _ _).mono ?_; rintro e w1 ⟨rfl, hg1⟩; have hm := HM.out)
        go_ret
        refine ⟨_, rfl, Lib.hid ?_, (by repeat (first | (with_reducible exact Gr.refl _) | (with_reducible assumption) | (with_reducible refine Gr.alloc ?_ _) | (with_reducible refine Gr.drew ?_) | (with_reducible refine Gr.drewN ?_ _) | (with_reducible refine Gr.trans ?_ (by assumption)) | (with_reducible refine Gr.setCell ?_ (by first | exact Nat.le_refl _ | omega | (simp; done) | (simp; omega)) _)))⟩
        have : (ps.all fun p => mayB p.1 p.2) = false := by
          rw [List.all_eq_false]
          exact ⟨ps[k], List.getElem_mem _, by simp [HM.out]⟩
        rw [this]; simp
    · obtain rfl : k = ps.length := by omega
      go_wp2
      go_ret
      refine ⟨_, rfl, Lib.hid ?_, hg⟩
      have := HP.out
      rw [List.take_length] at this
      rw [this]; rfl

theorem containsFn_any {w : World} (bl c : Nat) (ps : List (Int × Int)) (hbl : w.heap[bl]? = some (.cells (stampsCells ps).toArray 26)) (hlen : ps.length ≤ 1000000) :
    Calls Tryz.prog 59 #[.slice (some ⟨bl, 0, none⟩) ps.length c, .func (.func 136) #[] #[]] w fun e w' => e = .returned (.bool (!(ps.all fun p => mayB p.1 p.2))) ∧ Gr w w' := by
  have H := Lib.hid (indexFn_any bl c ps hbl hlen)
  clear hbl
  go_enter Tryz.func59, Tryz.ntmps59
  go_wp2_with (go_at_call 87; refine H.out.mono ?_; rintro e w1 ⟨z, rfl, hz, hg1⟩)
  go_ret
  exact ⟨by rw [← hz.out]; rfl, hg1⟩

theorem checkE_cases (n : Nat) : checkE n = 0 ∨ checkE n = 2 := by unfold checkE; split <;> simp
set_option maxHeartbeats 1000000 in
theorem head_any {w : World} (id ep pr : Int) (an : ByteArray) (bl c : Nat) (ps : List (Int × Int)) (hbl : w.heap[bl]? = some (.cells (stampsCells ps).toArray 26)) (hlen : ps.length ≤ 1000000) :
    Calls Tryz.prog 125 #[.int .i64 id, .int .i64 ep, .int .i64 pr, .string an, .slice (some ⟨bl, 0, none⟩) ps.length c] w fun e w' => e = .returned (.bool (headB id ep pr an ps)) ∧ Gr w w' := by
  have HB := Lib.hid hbl
  clear hbl
  have hlt : bl < w.heap.size := (Array.getElem?_eq_some_iff.1 HB.out).1
  have HU : Hid (headB id ep pr an ps = ((idB id && decide (0 ≤ ep) && decide (ep ≤ 9007199254740991) && decide (1 ≤ pr) && decide (pr ≤ 1000)) && (checkE an.size == 0) && ps.all fun p => mayB p.1 p.2)) := Lib.hid rfl
  cases h1 : idB id with
  | false =>
    go_enter Tryz.func125, Tryz.ntmps125
    go_wp2_with (first
      | (go_at_call 135; refine (isId_any _ _).mono ?_; rintro e w1 ⟨rfl, rfl⟩)
      | (go_at_call 35; refine (check_any _ _).mono ?_; rintro e w1 ⟨rfl, rfl⟩))
    go_ret
    exact ⟨by rw [HU.out]; exact ret_bool (by simp [*]), (by repeat (first | (with_reducible exact Gr.refl _) | (with_reducible assumption) | (with_reducible refine Gr.alloc ?_ _) | (with_reducible refine Gr.drew ?_) | (with_reducible refine Gr.drewN ?_ _) | (with_reducible refine Gr.trans ?_ (by assumption)) | (with_reducible refine Gr.setCell ?_ (by first | exact Nat.le_refl _ | omega | (simp; done) | (simp; omega)) _)))⟩
  | true =>
  cases h2 : decide (0 ≤ ep) with
  | false =>
    go_enter Tryz.func125, Tryz.ntmps125
    go_wp2_with (first
      | (go_at_call 135; refine (isId_any _ _).mono ?_; rintro e w1 ⟨rfl, rfl⟩)
      | (go_at_call 35; refine (check_any _ _).mono ?_; rintro e w1 ⟨rfl, rfl⟩))
    go_ret
    exact ⟨by rw [HU.out]; exact ret_bool (by simp [*]), (by repeat (first | (with_reducible exact Gr.refl _) | (with_reducible assumption) | (with_reducible refine Gr.alloc ?_ _) | (with_reducible refine Gr.drew ?_) | (with_reducible refine Gr.drewN ?_ _) | (with_reducible refine Gr.trans ?_ (by assumption)) | (with_reducible refine Gr.setCell ?_ (by first | exact Nat.le_refl _ | omega | (simp; done) | (simp; omega)) _)))⟩
  | true =>
  cases h3 : decide (ep ≤ 9007199254740991) with
  | false =>
    go_enter Tryz.func125, Tryz.ntmps125
    go_wp2_with (first
      | (go_at_call 135; refine (isId_any _ _).mono ?_; rintro e w1 ⟨rfl, rfl⟩)
      | (go_at_call 35; refine (check_any _ _).mono ?_; rintro e w1 ⟨rfl, rfl⟩))
    go_ret
    exact ⟨by rw [HU.out]; exact ret_bool (by simp [*]), (by repeat (first | (with_reducible exact Gr.refl _) | (with_reducible assumption) | (with_reducible refine Gr.alloc ?_ _) | (with_reducible refine Gr.drew ?_) | (with_reducible refine Gr.drewN ?_ _) | (with_reducible refine Gr.trans ?_ (by assumption)) | (with_reducible refine Gr.setCell ?_ (by first | exact Nat.le_refl _ | omega | (simp; done) | (simp; omega)) _)))⟩
  | true =>
  cases h4 : decide (1 ≤ pr) with
  | false =>
    go_enter Tryz.func125, Tryz.ntmps125
    go_wp2_with (first
      | (go_at_call 135; refine (isId_any _ _).mono ?_; rintro e w1 ⟨rfl, rfl⟩)
      | (go_at_call 35; refine (check_any _ _).mono ?_; rintro e w1 ⟨rfl, rfl⟩))
    go_ret
    exact ⟨by rw [HU.out]; exact ret_bool (by simp [*]), (by repeat (first | (with_reducible exact Gr.refl _) | (with_reducible assumption) | (with_reducible refine Gr.alloc ?_ _) | (with_reducible refine Gr.drew ?_) | (with_reducible refine Gr.drewN ?_ _) | (with_reducible refine Gr.trans ?_ (by assumption)) | (with_reducible refine Gr.setCell ?_ (by first | exact Nat.le_refl _ | omega | (simp; done) | (simp; omega)) _)))⟩
  | true =>
  cases h5 : decide (pr ≤ 1000) with
  | false =>
    go_enter Tryz.func125, Tryz.ntmps125
    go_wp2_with (first
      | (go_at_call 135; refine (isId_any _ _).mono ?_; rintro e w1 ⟨rfl, rfl⟩)
      | (go_at_call 35; refine (check_any _ _).mono ?_; rintro e w1 ⟨rfl, rfl⟩))
    go_ret
    exact ⟨by rw [HU.out]; exact ret_bool (by simp [*]), (by repeat (first | (with_reducible exact Gr.refl _) | (with_reducible assumption) | (with_reducible refine Gr.alloc ?_ _) | (with_reducible refine Gr.drew ?_) | (with_reducible refine Gr.drewN ?_ _) | (with_reducible refine Gr.trans ?_ (by assumption)) | (with_reducible refine Gr.setCell ?_ (by first | exact Nat.le_refl _ | omega | (simp; done) | (simp; omega)) _)))⟩
  | true =>
  rcases checkE_cases an.size with h6 | h6
  · cases h7 : (ps.all fun p => mayB p.1 p.2) with
    | false =>
      have HC := Lib.hid (containsFn_any bl c ps HB.out hlen)
      rw [h7] at HC
      go_enter Tryz.func125, Tryz.ntmps125
      go_wp2_with (first
        | (go_at_call 135; refine (isId_any _ _).mono ?_; rintro e w1 ⟨rfl, rfl⟩)
        | (go_at_call 35; refine (check_any _ _).mono ?_; rintro e w1 ⟨rfl, rfl⟩)
        | (go_at_call 59; refine HC.out.mono ?_; rintro e w1 ⟨rfl, hg1⟩))
      go_ret
      exact ⟨by rw [HU.out]; exact ret_bool (by simp [*]), (by repeat (first | (with_reducible exact Gr.refl _) | (with_reducible assumption) | (with_reducible refine Gr.alloc ?_ _) | (with_reducible refine Gr.drew ?_) | (with_reducible refine Gr.drewN ?_ _) | (with_reducible refine Gr.trans ?_ (by assumption)) | (with_reducible refine Gr.setCell ?_ (by first | exact Nat.le_refl _ | omega | (simp; done) | (simp; omega)) _)))⟩
    | true =>
      have HC := Lib.hid (containsFn_any bl c ps HB.out hlen)
      rw [h7] at HC
      go_enter Tryz.func125, Tryz.ntmps125
      go_wp2_with (first
        | (go_at_call 135; refine (isId_any _ _).mono ?_; rintro e w1 ⟨rfl, rfl⟩)
        | (go_at_call 35; refine (check_any _ _).mono ?_; rintro e w1 ⟨rfl, rfl⟩)
        | (go_at_call 59; refine HC.out.mono ?_; rintro e w1 ⟨rfl, hg1⟩))
      go_ret
      exact ⟨by rw [HU.out]; exact ret_bool (by simp [*]), (by repeat (first | (with_reducible exact Gr.refl _) | (with_reducible assumption) | (with_reducible refine Gr.alloc ?_ _) | (with_reducible refine Gr.drew ?_) | (with_reducible refine Gr.drewN ?_ _) | (with_reducible refine Gr.trans ?_ (by assumption)) | (with_reducible refine Gr.setCell ?_ (by first | exact Nat.le_refl _ | omega | (simp; done) | (simp; omega)) _)))⟩
  ·
    go_enter Tryz.func125, Tryz.ntmps125
    go_wp2_with (first
      | (go_at_call 135; refine (isId_any _ _).mono ?_; rintro e w1 ⟨rfl, rfl⟩)
      | (go_at_call 35; refine (check_any _ _).mono ?_; rintro e w1 ⟨rfl, rfl⟩))
    go_ret
    exact ⟨by rw [HU.out]; exact ret_bool (by simp [*]), (by repeat (first | (with_reducible exact Gr.refl _) | (with_reducible assumption) | (with_reducible refine Gr.alloc ?_ _) | (with_reducible refine Gr.drew ?_) | (with_reducible refine Gr.drewN ?_ _) | (with_reducible refine Gr.trans ?_ (by assumption)) | (with_reducible refine Gr.setCell ?_ (by first | exact Nat.le_refl _ | omega | (simp; done) | (simp; omega)) _)))⟩

def RC (_ : World) (ds : List Value) (c : Chg) : Prop := ds = chgCells c
abbrev RdC (w : World) (v : Value) (l : List Chg) : Prop := RdR RC 3 w v l
theorem RdC.gr {a b : World} {v : Value} {l : List Chg} (h : RdC a v l) (hg : Gr a b) : RdC b v l := RdR.gr (fun _ _ _ _ _ h => h) hg h
theorem RdC.cells {w : World} {blk off : Nat} {l : List Chg} (h : ∀ (i : Nat) (h : i < l.length), ∃ ds : List Value, ds.length = 3 ∧ (∀ (j : Nat) (hj : j < ds.length), w.cell? ⟨blk, off + (i * 3 + j), none⟩ = some ds[j]) ∧ RC w ds l[i]) {k : Nat} (hk : k < l.length) :
    w.cell? ⟨blk, off + k * 3, none⟩ = some (.int .i64 l[k].seq) ∧ w.cell? ⟨blk, off + k * 3 + 1, none⟩ = some (.string l[k].value) ∧ w.cell? ⟨blk, off + k * 3 + 2, none⟩ = some (.bool l[k].del) := by
  obtain ⟨ds, h1, h2, h3⟩ := h k hk
  unfold RC at h3
  subst h3
  have a := h2 0 (by simp [chgCells])
  have b := h2 1 (by simp [chgCells])
  have c := h2 2 (by simp [chgCells])
  simp [chgCells] at a b c
  exact ⟨a, by rw [Nat.add_assoc]; exact b, by rw [Nat.add_assoc]; exact c⟩

set_option maxHeartbeats 4000000 in
theorem checkIntent_any {w : World} (x : Itt) {vl : Value} (h : RdC w vl x.l) (hlen : x.l.length ≤ 140737488355328) :
    Calls Tryz.prog 113 #[.agg #[.int .i64 x.id, .int .i64 x.epoch, .int .i64 x.prio, .string x.anchor, .int .i64 x.sw, .int .i64 x.sl, .int .i64 x.bw, .int .i64 x.bl, vl]] w fun e w' => e = .returned (.int .i64 (okE (ittOk x))) ∧ Gr w w' := by
  have hbx := heap_alloc_new w (.cells #[.int .i64 x.id, .int .i64 x.epoch, .int .i64 x.prio, .string x.anchor, .int .i64 x.sw, .int .i64 x.sl, .int .i64 x.bw, .int .i64 x.bl, vl] 40)
  have HBX := Lib.hid hbx
  obtain ⟨k_0, k_1, k_2, k_3, k_4, k_5, k_6, k_7, k_8, g_0, g_1, g_2, g_3, g_4, g_5, g_6, g_7, g_8, l_0⟩ := blk9 hbx
  clear hbx
  have HH := Lib.hid (fun (w : World) (bl c : Nat) (hbl : w.heap[bl]? = some (.cells (stampsCells [(x.sw, x.sl), (x.bw, x.bl)]).toArray 26)) => head_any x.id x.epoch x.prio x.anchor bl c [(x.sw, x.sl), (x.bw, x.bl)] hbl (by simp))
  have HU : Hid (ittOk x = (headB x.id x.epoch x.prio x.anchor [(x.sw, x.sl), (x.bw, x.bl)] && decide (1 ≤ x.l.length) && decide (x.l.length ≤ 16) && chgsOk 0 x.l)) := Lib.hid rfl
  generalize headB x.id x.epoch x.prio x.anchor [(x.sw, x.sl), (x.bw, x.bl)] = hd at HH HU
  have HL := Lib.hid h
  rcases h with ⟨h1, q, c, rfl, h2⟩ | ⟨blk, off, cap, rfl, h1, h2, h3, h4, h5⟩
  · have hr : ittOk x = false := by rw [HU.out, h1]; simp
    rw [hr]
    clear h1 hr
    cases hd <;>
    · go_enter Tryz.func113, Tryz.ntmps113
      go_wp2_with (go_at_call 125; refine (HH.out _ _ _ (by exact heap_newn (by first | rfl | (simp; done)))).mono ?_; rintro e w1 ⟨rfl, hg1⟩; (have hbx := hg1.blk (heap_alloc_mono HBX.out _)); obtain ⟨k_0, k_1, k_2, k_3, k_4, k_5, k_6, k_7, k_8, g_0, g_1, g_2, g_3, g_4, g_5, g_6, g_7, g_8, l_0⟩ := blk9 hbx; clear hbx)
      go_loopw [3, 36] (fun o i wr => o = .bool false ∧ i = .int .i64 0 ∧ Gr w wr) (fun _ _ _ => 0)
      case atStart => exact ⟨rfl, rfl, (by repeat (first | (with_reducible exact Gr.refl _) | (with_reducible assumption) | (with_reducible refine Gr.alloc ?_ _) | (with_reducible refine Gr.drew ?_) | (with_reducible refine Gr.drewN ?_ _) | (with_reducible refine Gr.trans ?_ (by assumption)) | (with_reducible refine Gr.setCell ?_ (by first | exact Nat.le_refl _ | omega | (simp; done) | (simp; omega)) _)))⟩
      case round =>
        obtain ⟨rfl, rfl, hg⟩ := hrel
        go_wp2_with (go_at_call 126; refine (may_any2 _ _).mono ?_; rintro e w2 ⟨rfl, rfl⟩)
        go_ret
        exact ⟨rfl, hg⟩
  · have h9 : x.l.length ≤ 9223372036854775807 := by omega
    have H0 : Hid (ittOk x = (hd && (decide (x.l.length ≤ 16) && chgsOk 0 x.l))) := Lib.hid (by rw [HU.out, show decide (1 ≤ x.l.length) = true from decide_eq_true h1, Bool.and_true, Bool.and_assoc])
    have h16 : decide ((x.l.length : Int) ≤ 16) = decide (x.l.length ≤ 16) := by rw [decide_eq_decide]; omega
    have H5 := Lib.hid h5
    generalize decide (x.l.length ≤ 16) = b16 at H0 h16
    clear h5 h3
    cases hd with
    | false =>
      go_enter Tryz.func113, Tryz.ntmps113
      go_wp2_with (go_at_call 125; refine (HH.out _ _ _ (by exact heap_newn (by first | rfl | (simp; done)))).mono ?_; rintro e w1 ⟨rfl, hg1⟩; (have hbx := hg1.blk (heap_alloc_mono HBX.out _)); obtain ⟨k_0, k_1, k_2, k_3, k_4, k_5, k_6, k_7, k_8, g_0, g_1, g_2, g_3, g_4, g_5, g_6, g_7, g_8, l_0⟩ := blk9 hbx; clear hbx)
      clear k_0 k_1 k_2 k_3 k_4 k_5 k_6 k_7 k_8 g_0 g_1 g_2 g_3 g_4 g_5 g_6 g_7 g_8
      go_loopw [3, 36] (fun o i wr => ∃ k : Nat, k ≤ x.l.length ∧ i = .int .i64 k ∧ o = .bool false ∧ Gr w wr) (fun _ i _ => x.l.length - (intOf i).toNat)
      case atStart => exact ⟨0, Nat.zero_le _, rfl, rfl, (by repeat (first | (with_reducible exact Gr.refl _) | (with_reducible assumption) | (with_reducible refine Gr.alloc ?_ _) | (with_reducible refine Gr.drew ?_) | (with_reducible refine Gr.drewN ?_ _) | (with_reducible refine Gr.trans ?_ (by assumption)) | (with_reducible refine Gr.setCell ?_ (by first | exact Nat.le_refl _ | omega | (simp; done) | (simp; omega)) _)))⟩
      case round =>
        obtain ⟨k, hk, rfl, rfl, hg⟩ := hrel
        by_cases hlt : k < x.l.length
        · obtain ⟨c1, c2, c3⟩ := RdC.cells (fun i hi => by obtain ⟨ds, q1, q2, q3⟩ := H5.out i hi; exact ⟨ds, q1, fun j hj => hg.cell' (q2 j hj), q3⟩) hlt
          go_wp2
          go_roundw
          case rel => exact ⟨k + 1, by omega, by go_num, rfl, (by repeat (first | (with_reducible exact Gr.refl _) | (with_reducible assumption) | (with_reducible refine Gr.alloc ?_ _) | (with_reducible refine Gr.drew ?_) | (with_reducible refine Gr.drewN ?_ _) | (with_reducible refine Gr.trans ?_ (by assumption)) | (with_reducible refine Gr.setCell ?_ (by first | exact Nat.le_refl _ | omega | (simp; done) | (simp; omega)) _)))⟩
          case measure => simp [intOf]; omega
        · obtain rfl : k = x.l.length := by omega
          go_wp2_with (go_at_call 126; refine (may_any2 _ _).mono ?_; rintro e w2 ⟨rfl, rfl⟩)
          go_ret
          exact ⟨by rw [H0.out]; rfl, hg⟩
    | true =>
    cases b16 with
    | false =>
      go_enter Tryz.func113, Tryz.ntmps113
      go_wp2_with (go_at_call 125; refine (HH.out _ _ _ (by exact heap_newn (by first | rfl | (simp; done)))).mono ?_; rintro e w1 ⟨rfl, hg1⟩; (have hbx := hg1.blk (heap_alloc_mono HBX.out _)); obtain ⟨k_0, k_1, k_2, k_3, k_4, k_5, k_6, k_7, k_8, g_0, g_1, g_2, g_3, g_4, g_5, g_6, g_7, g_8, l_0⟩ := blk9 hbx; clear hbx)
      clear k_0 k_1 k_2 k_3 k_4 k_5 k_6 k_7 k_8 g_0 g_1 g_2 g_3 g_4 g_5 g_6 g_7 g_8
      go_loopw [3, 36] (fun o i wr => ∃ k : Nat, k ≤ x.l.length ∧ i = .int .i64 k ∧ o = .bool false ∧ Gr w wr) (fun _ i _ => x.l.length - (intOf i).toNat)
      case atStart => exact ⟨0, Nat.zero_le _, rfl, rfl, (by repeat (first | (with_reducible exact Gr.refl _) | (with_reducible assumption) | (with_reducible refine Gr.alloc ?_ _) | (with_reducible refine Gr.drew ?_) | (with_reducible refine Gr.drewN ?_ _) | (with_reducible refine Gr.trans ?_ (by assumption)) | (with_reducible refine Gr.setCell ?_ (by first | exact Nat.le_refl _ | omega | (simp; done) | (simp; omega)) _)))⟩
      case round =>
        obtain ⟨k, hk, rfl, rfl, hg⟩ := hrel
        by_cases hlt : k < x.l.length
        · obtain ⟨c1, c2, c3⟩ := RdC.cells (fun i hi => by obtain ⟨ds, q1, q2, q3⟩ := H5.out i hi; exact ⟨ds, q1, fun j hj => hg.cell' (q2 j hj), q3⟩) hlt
          go_wp2
          go_roundw
          case rel => exact ⟨k + 1, by omega, by go_num, rfl, (by repeat (first | (with_reducible exact Gr.refl _) | (with_reducible assumption) | (with_reducible refine Gr.alloc ?_ _) | (with_reducible refine Gr.drew ?_) | (with_reducible refine Gr.drewN ?_ _) | (with_reducible refine Gr.trans ?_ (by assumption)) | (with_reducible refine Gr.setCell ?_ (by first | exact Nat.le_refl _ | omega | (simp; done) | (simp; omega)) _)))⟩
          case measure => simp [intOf]; omega
        · obtain rfl : k = x.l.length := by omega
          go_wp2_with (go_at_call 126; refine (may_any2 _ _).mono ?_; rintro e w2 ⟨rfl, rfl⟩)
          go_ret
          exact ⟨by rw [H0.out]; rfl, hg⟩
    | true =>
    go_enter Tryz.func113, Tryz.ntmps113
    go_wp2_with (go_at_call 125; refine (HH.out _ _ _ (by exact heap_newn (by first | rfl | (simp; done)))).mono ?_; rintro e w1 ⟨rfl, hg1⟩; (have hbx := hg1.blk (heap_alloc_mono HBX.out _)); obtain ⟨k_0, k_1, k_2, k_3, k_4, k_5, k_6, k_7, k_8, g_0, g_1, g_2, g_3, g_4, g_5, g_6, g_7, g_8, l_0⟩ := blk9 hbx; clear hbx)
    clear k_0 k_1 k_2 k_3 k_4 k_5 k_6 k_7 k_8 g_0 g_1 g_2 g_3 g_4 g_5 g_6 g_7 g_8
    go_loopw [3, 4, 36] (fun o z i wr => ∃ (k : Nat) (ob : Bool) (la : Int), k ≤ x.l.length ∧ i = .int .i64 k ∧ o = .bool ob ∧ z = .int .i64 la ∧ Hid (ob = chgsOk 0 (x.l.take k) ∧ la = lastSeq 0 (x.l.take k)) ∧ Gr w wr) (fun _ _ i _ => x.l.length - (intOf i).toNat)
    case atStart => exact ⟨0, true, 0, Nat.zero_le _, rfl, rfl, rfl, Lib.hid ⟨rfl, rfl⟩, (by repeat (first | (with_reducible exact Gr.refl _) | (with_reducible assumption) | (with_reducible refine Gr.alloc ?_ _) | (with_reducible refine Gr.drew ?_) | (with_reducible refine Gr.drewN ?_ _) | (with_reducible refine Gr.trans ?_ (by assumption)) | (with_reducible refine Gr.setCell ?_ (by first | exact Nat.le_refl _ | omega | (simp; done) | (simp; omega)) _)))⟩
    case round =>
      obtain ⟨k, ob, la, hk, rfl, rfl, rfl, HI, hg⟩ := hrel
      by_cases hlt : k < x.l.length
      · obtain ⟨c1, c2, c3⟩ := RdC.cells (fun i hi => by obtain ⟨ds, q1, q2, q3⟩ := H5.out i hi; exact ⟨ds, q1, fun j hj => hg.cell' (q2 j hj), q3⟩) hlt
        have HS : Hid (chgsOk 0 (x.l.take (k + 1)) = (ob && chgOk la x.l[k]) ∧ lastSeq 0 (x.l.take (k + 1)) = x.l[k].seq) := Lib.hid (by
          rw [List.take_succ_eq_append_getElem hlt, chgsOk_snoc, lastSeq_snoc, ← HI.out.1, ← HI.out.2]; exact ⟨rfl, rfl⟩)
        generalize x.l[k] = c at c1 c2 c3 HS
        obtain ⟨sq, va, dl⟩ := c
        have HC : Hid (chgOk la ⟨sq, va, dl⟩ = (decide (la < sq) && decide (sq ≤ 9007199254740991) && decide (va.size ≤ 64) && !(dl && !(va.size == 0)))) := Lib.hid rfl
        have e3 : decide ((va.size : Int) ≤ 64) = decide (va.size ≤ 64) := by rw [decide_eq_decide]; omega
        have e4 : va.toList.isEmpty = (va.size == 0) := by rw [isEmpty_size]; rfl
        simp only at c1 c2 c3
        cases ob with
        | false =>
          go_wp2
          go_roundw
          case rel => exact ⟨k + 1, _, _, by omega, by go_num, rfl, rfl, Lib.hid ⟨by rw [HS.out.1, HC.out]; simp [*], HS.out.2.symm⟩, (by repeat (first | (with_reducible exact Gr.refl _) | (with_reducible assumption) | (with_reducible refine Gr.alloc ?_ _) | (with_reducible refine Gr.drew ?_) | (with_reducible refine Gr.drewN ?_ _) | (with_reducible refine Gr.trans ?_ (by assumption)) | (with_reducible refine Gr.setCell ?_ (by first | exact Nat.le_refl _ | omega | (simp; done) | (simp; omega)) _)))⟩
          case measure => simp [intOf]; omega
        | true =>
        cases a1 : decide (la < sq) with
        | false =>
          go_wp2
          go_roundw
          case rel => exact ⟨k + 1, _, _, by omega, by go_num, rfl, rfl, Lib.hid ⟨by rw [HS.out.1, HC.out]; simp [*], HS.out.2.symm⟩, (by repeat (first | (with_reducible exact Gr.refl _) | (with_reducible assumption) | (with_reducible refine Gr.alloc ?_ _) | (with_reducible refine Gr.drew ?_) | (with_reducible refine Gr.drewN ?_ _) | (with_reducible refine Gr.trans ?_ (by assumption)) | (with_reducible refine Gr.setCell ?_ (by first | exact Nat.le_refl _ | omega | (simp; done) | (simp; omega)) _)))⟩
          case measure => simp [intOf]; omega
        | true =>
        cases a2 : decide (sq ≤ 9007199254740991) with
        | false =>
          go_wp2
          go_roundw
          case rel => exact ⟨k + 1, _, _, by omega, by go_num, rfl, rfl, Lib.hid ⟨by rw [HS.out.1, HC.out]; simp [*], HS.out.2.symm⟩, (by repeat (first | (with_reducible exact Gr.refl _) | (with_reducible assumption) | (with_reducible refine Gr.alloc ?_ _) | (with_reducible refine Gr.drew ?_) | (with_reducible refine Gr.drewN ?_ _) | (with_reducible refine Gr.trans ?_ (by assumption)) | (with_reducible refine Gr.setCell ?_ (by first | exact Nat.le_refl _ | omega | (simp; done) | (simp; omega)) _)))⟩
          case measure => simp [intOf]; omega
        | true =>
        cases a3 : decide (va.size ≤ 64) with
        | false =>
          rw [a3] at e3
          go_wp2
          go_roundw
          case rel => exact ⟨k + 1, _, _, by omega, by go_num, rfl, rfl, Lib.hid ⟨by rw [HS.out.1, HC.out]; simp [*], HS.out.2.symm⟩, (by repeat (first | (with_reducible exact Gr.refl _) | (with_reducible assumption) | (with_reducible refine Gr.alloc ?_ _) | (with_reducible refine Gr.drew ?_) | (with_reducible refine Gr.drewN ?_ _) | (with_reducible refine Gr.trans ?_ (by assumption)) | (with_reducible refine Gr.setCell ?_ (by first | exact Nat.le_refl _ | omega | (simp; done) | (simp; omega)) _)))⟩
          case measure => simp [intOf]; omega
        | true =>
        rw [a3] at e3
        cases dl with
        | false =>
          go_wp2
          go_roundw
          case rel => exact ⟨k + 1, _, _, by omega, by go_num, rfl, rfl, Lib.hid ⟨by rw [HS.out.1, HC.out]; simp [*], HS.out.2.symm⟩, (by repeat (first | (with_reducible exact Gr.refl _) | (with_reducible assumption) | (with_reducible refine Gr.alloc ?_ _) | (with_reducible refine Gr.drew ?_) | (with_reducible refine Gr.drewN ?_ _) | (with_reducible refine Gr.trans ?_ (by assumption)) | (with_reducible refine Gr.setCell ?_ (by first | exact Nat.le_refl _ | omega | (simp; done) | (simp; omega)) _)))⟩
          case measure => simp [intOf]; omega
        | true =>
        cases a4 : (va.size == 0) with
        | false =>
          rw [a4] at e4
          go_wp2
          go_roundw
          case rel => exact ⟨k + 1, _, _, by omega, by go_num, rfl, rfl, Lib.hid ⟨by rw [HS.out.1, HC.out]; simp [*], HS.out.2.symm⟩, (by repeat (first | (with_reducible exact Gr.refl _) | (with_reducible assumption) | (with_reducible refine Gr.alloc ?_ _) | (with_reducible refine Gr.drew ?_) | (with_reducible refine Gr.drewN ?_ _) | (with_reducible refine Gr.trans ?_ (by assumption)) | (with_reducible refine Gr.setCell ?_ (by first | exact Nat.le_refl _ | omega | (simp; done) | (simp; omega)) _)))⟩
          case measure => simp [intOf]; omega
        | true =>
          rw [a4] at e4
          go_wp2
          go_roundw
          case rel => exact ⟨k + 1, _, _, by omega, by go_num, rfl, rfl, Lib.hid ⟨by rw [HS.out.1, HC.out]; simp [*], HS.out.2.symm⟩, (by repeat (first | (with_reducible exact Gr.refl _) | (with_reducible assumption) | (with_reducible refine Gr.alloc ?_ _) | (with_reducible refine Gr.drew ?_) | (with_reducible refine Gr.drewN ?_ _) | (with_reducible refine Gr.trans ?_ (by assumption)) | (with_reducible refine Gr.setCell ?_ (by first | exact Nat.le_refl _ | omega | (simp; done) | (simp; omega)) _)))⟩
          case measure => simp [intOf]; omega
      · obtain rfl : k = x.l.length := by omega
        have hI := HI.out.1
        rw [List.take_length] at hI
        have HI2 := Lib.hid hI
        clear hI
        cases ob <;>
        · go_wp2_with (go_at_call 126; refine (may_any2 _ _).mono ?_; rintro e w2 ⟨rfl, rfl⟩)
          go_ret
          exact ⟨by rw [H0.out, ← HI2.out]; rfl, hg⟩
end Go.Proofs.YthgecojbggoniaaGreatDoor
