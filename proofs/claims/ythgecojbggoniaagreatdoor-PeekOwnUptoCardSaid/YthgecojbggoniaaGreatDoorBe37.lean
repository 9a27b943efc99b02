/- What the rows stand on, part 37: SweP, TabF, PekP. Printed by bundle.py out of my texts. -/
import Derived.Test.YthgecojbggoniaaGreatDoorBe07
import Derived.Test.YthgecojbggoniaaGreatDoorBe08
import Derived.Test.YthgecojbggoniaaGreatDoorBe18
import Derived.Test.YthgecojbggoniaaGreatDoorBe21
import Derived.Test.YthgecojbggoniaaGreatDoorBe28
import Derived.Test.YthgecojbggoniaaGreatDoorBe29
import Derived.Test.YthgecojbggoniaaGreatDoorBe32
import Derived.Test.YthgecojbggoniaaGreatDoorBe36
namespace Go.Proofs.YthgecojbggoniaaGreatDoor
open Go.RowKit
set_option maxRecDepth 100000
set_option linter.unusedVariables false
set_option linter.unusedSimpArgs false
set_option linter.unnecessarySimpa false

/-! what a version's key says -/
def kl (x : Rw) : List UInt8 := (readVersionR x.1.data.toList).1
def sa (x : Rw) : Int := (readVersionR x.1.data.toList).2.1
def sb (x : Rw) : Int := (readVersionR x.1.data.toList).2.2.1
def rdk (x : Rw) : Bool := (readVersionR x.1.data.toList).2.2.2 == 0
theorem klt_irrefl (x : ByteArray) : klt x x = false := bl_irrefl _
/-! lists of rows that rise -/
theorem rising_split {A B : List Rw} {x : Rw} (h : RisingR (A ++ x :: B)) : (∀ y ∈ A, klt y.1 x.1 = true) ∧ (∀ y ∈ B, klt x.1 y.1 = true) := by
  obtain ⟨h1, h2, h3⟩ := List.pairwise_append.1 h
  exact ⟨fun y hy => h3 y hy x (by simp), fun y hy => (List.pairwise_cons.1 h2).1 y hy⟩
theorem get_mem {R : List Rw} (hR : RisingR R) {x : Rw} (hx : x ∈ R) : getR x.1 R = some x.2 := by
  obtain ⟨A, B, rfl⟩ := List.append_of_mem hx
  obtain ⟨h1, h2⟩ := rising_split hR
  have e2 : aboveR x.1 (A ++ x :: B) = x :: B := by
    unfold aboveR
    rw [List.dropWhile_append_of_pos h1, List.dropWhile_cons_of_neg (by rw [klt_irrefl]; simp)]
  unfold getR
  rw [e2]
  simp
/-! what goes -/
def isV (x : Rw) : Bool := (takeVerR x.2.data.toList).2.1
end Go.Proofs.YthgecojbggoniaaGreatDoor
namespace Go.Proofs.YthgecojbggoniaaGreatDoor
open Go.RowKit Classical
set_option maxRecDepth 100000
set_option linter.unusedVariables false
set_option linter.unusedSimpArgs false
set_option linter.unnecessarySimpa false

def tvk (x : Rw) : Bool := (takeVerR x.2.data.toList).2.2 == 0
end Go.Proofs.YthgecojbggoniaaGreatDoor
namespace Go.Proofs.YthgecojbggoniaaGreatDoor
open Go.RowKit
set_option maxRecDepth 100000
set_option linter.unusedVariables false
set_option linter.unusedSimpArgs false
set_option linter.unnecessarySimpa false

/-! rows put one behind the other -/
def cpR (l : List Rw) : List Rw := l.foldl (fun R x => putR x.1 x.2 R) []
theorem cp_snoc (l : List Rw) (x : Rw) : cpR (l ++ [x]) = putR x.1 x.2 (cpR l) := by unfold cpR; rw [List.foldl_append]; rfl
theorem tw_self {α : Type} {p : α → Bool} : ∀ {l : List α}, (∀ y ∈ l, p y = true) → l.takeWhile p = l
  | [], _ => rfl
  | y :: r, h => by rw [List.takeWhile_cons, if_pos (h y List.mem_cons_self), tw_self (fun z hz => h z (List.mem_cons_of_mem _ hz))]
theorem dw_nil {α : Type} {p : α → Bool} : ∀ {l : List α}, (∀ y ∈ l, p y = true) → l.dropWhile p = []
  | [], _ => rfl
  | y :: r, h => by rw [List.dropWhile_cons, if_pos (h y List.mem_cons_self), dw_nil (fun z hz => h z (List.mem_cons_of_mem _ hz))]
theorem put_last {R : List Rw} {x : Rw} (h : ∀ y ∈ R, klt y.1 x.1 = true) : putR x.1 x.2 R = R ++ [x] := by
  unfold putR
  have hb : belowR x.1 R = R := tw_self h
  have ha : aboveR x.1 R = [] := dw_nil h
  rw [hb, ha]
  rfl
theorem cp_all {R : List Rw} (hR : RisingR R) : cpR R = R := by
  have gen : ∀ (B A : List Rw), RisingR (A ++ B) → B.foldl (fun R x => putR x.1 x.2 R) A = A ++ B := by
    intro B
    induction B with
    | nil => intro A _; simp
    | cons x r ih =>
      intro A h
      rw [List.foldl_cons, put_last (fun y hy => (rising_split h).1 y hy), ih _ (by rw [List.append_assoc]; exact h), List.append_assoc]
      rfl
  exact gen R [] hR
theorem len_put (k v : ByteArray) (R : List Rw) : (putR k v R).length ≤ R.length + 1 := by
  unfold putR
  have := len_rest k R
  rw [List.length_append, List.length_cons]
  omega
theorem cp_len (l : List Rw) : (cpR l).length ≤ l.length := by
  have gen : ∀ (B A : List Rw), (B.foldl (fun R x => putR x.1 x.2 R) A).length ≤ A.length + B.length := by
    intro B
    induction B with
    | nil => intro A; exact Nat.le_refl _
    | cons x r ih =>
      intro A
      have h1 := ih (putR x.1 x.2 A)
      have h2 := len_put x.1 x.2 A
      rw [List.foldl_cons, List.length_cons]
      omega
  have := gen l []
  unfold cpR
  simpa using this
/-- what stands while a table is copied -/
structure CpI (R : List Rw) (tb b1 b3 tb2 c1 c2 c3 : Nat) (w0 : World) (pr : List (RwI R)) (W : World) : Prop where
  g : Gr w0 W
  new : TabAt tb2 (fun k => w0.heap.size ≤ k) (cpR (pr.map (·.1))) W
  t0 : W.heap[b1]? = some (.cells #[.pointer (some ⟨tb, 0, none⟩)] 31)
  s3 : W.heap[b3]? = some (.cells #[.pointer (some ⟨tb2, 0, none⟩)] 31)
  t1 : W.heap[c1]? = some (.cells #[.pointer (some ⟨tb, 0, none⟩)] 31)
  t2 : W.heap[c2]? = some (.cells #[.string eK] 9)
  t3 : W.heap[c3]? = some (.cells #[.string eK] 9)
theorem CpI.own {R : List Rw} {tb b1 b3 tb2 c1 c2 c3 : Nat} {w0 : World} {B : Nat} (hB : w0.heap.size ≤ B) : OwnFrom B (CpI R tb b1 b3 tb2 c1 c2 c3 w0) := by
  intro pre W W' row h hg hr
  have hr2 : ∀ r, row = some r → ∃ o : Obj, W.heap[r]? = some o ∧ o.isCells = false := fun r e => (hr r e).2
  have hc := fun {b : Nat} {cs : Array Value} {t : TypeId} {fz : Nat × Nat} (hh : W.heap[b]? = some (.cells cs t fz)) => grown_cells hg hr2 hh
  exact ⟨h.g.grown hg (fun k e => Nat.le_trans hB (hr k e).1), h.new.grown hg hr2, hc h.t0, hc h.s3, hc h.t1, hc h.t2, hc h.t3⟩
theorem CpI.it {R : List Rw} {tb b1 b3 tb2 c1 c2 c3 : Nat} {w0 W : World} {pre : List (RwI R)} {S : Nat → Prop} (h : CpI R tb b1 b3 tb2 c1 c2 c3 w0 pre W) (ht : TabAt tb S R w0) : ItAt tb c1 c2 c3 S R eK eK W := ⟨ht.gr h.g, h.t1, h.t2, h.t3⟩
theorem frt_rule {S : Nat → Prop} {W : World} {b : Nat} {cs : Array Value} {t : TypeId} (h : W.heap[b]? = some (.cells cs t)) (ht : t ≠ 150 ∧ t ≠ 153) {i : Nat} {v : Value} (hv : cs[i]? = some v) :
    ∀ w', FrT S W.drew w' → w'.cell? ⟨b, i, none⟩ = some v := fun w' hf => cell_of (hf.blk b _ h (fun _ hi => by
    rcases hi with ⟨cs', fz', h1 | h1⟩ <;> injection h1 with _ h2 _
    · exact ht.1 h2
    · exact ht.2 h2)) hv
theorem frt_cells {S : Nat → Prop} {W w' : World} {b : Nat} {cs : Array Value} {t : TypeId} {fz : Nat × Nat} (hf : FrT S W w') (h : W.heap[b]? = some (.cells cs t fz)) (ht : t ≠ 150 ∧ t ≠ 153) : w'.heap[b]? = some (.cells cs t fz) := hf.blk b _ h (fun _ hi => by
    rcases hi with ⟨cs', fz', h1 | h1⟩ <;> injection h1 with _ h2 _
    · exact ht.1 h2
    · exact ht.2 h2)
theorem frt_toGr {S : Nat → Prop} {w0 a b : World} (hg : Gr w0 a) (h : FrT S a b) (hS : ∀ k, S k → w0.heap.size ≤ k) : Gr w0 b := by
  refine ⟨⟨h.os.trans hg.b.os, h.tape.trans hg.b.tape, h.output.trans hg.b.output, Nat.le_trans hg.b.size h.size, fun k hk => ?_⟩⟩
  have hka : k < a.heap.size := Nat.lt_of_lt_of_le hk hg.b.size
  rw [← hg.b.block k hk, h.blk k a.heap[k] (Array.getElem?_eq_getElem hka) (fun hs => absurd (hS k hs) (by omega)), Array.getElem?_eq_getElem hka]
theorem get_some {R : List Rw} (hR : RisingR R) {x : Rw} (hx : x ∈ R) : ∃ v, getR x.1 R = some v := ⟨_, get_mem hR hx⟩
set_option maxHeartbeats 8000000 in
theorem copy_tab {tb : Nat} {S : Nat → Prop} {R : List Rw} {w : World} (h : TabAt tb S R w) (hsz : ∀ x ∈ R, x.1.size < 140737488355328 ∧ x.2.size ≤ 140737488351232) (hR : R.length ≤ 1000000000) :
    Calls Tryz.prog 52 #[.pointer (some ⟨tb, 0, none⟩)] w fun e w' => ∃ tb2, e = .returned (.pointer (some ⟨tb2, 0, none⟩)) ∧ TabAt tb2 (fun k => w.heap.size ≤ k) R w' ∧ Gr w w' := by
  have HT := Lib.hid h
  have HSz := Lib.hid hsz
  have HR : Hid ((betweenR eK eK R).length ≤ 1000000000) := Lib.hid (by rw [between_all]; exact hR)
  have HBt := Lib.hid (between_all R)
  have HRi := Lib.hid (tab_first h)
  obtain ⟨lb, H, bx, L, xx, seed, u1, u2, u3, u4, u5, u6⟩ := h.ex
  have HNo := Lib.hid (tab_none (lv := .pointer none) (((Gr.refl w).alloc (.cells #[.pointer (some ⟨tb, 0, none⟩)] 31)).blk u1))
  have HU1 := Lib.hid u1
  have HL := Lib.hid u3
  have HL4 := Lib.hid u4
  clear h hsz hR u1 u2 u3 u4 u5 u6
  refine (callsIn_wide (n := 3)).1 ?_
  refine callsIn_of_wp_marks Tryz.func52 rfl trivial ?_ rfl
  simp only [Tryz.ntmps52, List.size_toArray, List.length_cons, List.length_nil, Nat.reduceAdd, Nat.reduceSub, Array.replicate_succ, Array.replicate_zero, List.push_toArray, List.append_toArray, List.nil_append, List.cons_append]
  have hX0 : Gr w (w.alloc (.cells #[.pointer (some ⟨tb, 0, none⟩)] 31)) := (Gr.refl w).alloc _
  obtain ⟨k_0, k_1, k_2, g_0, g_1, g_2, l_0⟩ := blk3 (hX0.blk HU1.out)
  gi_wp2_with (first
    | (refine ⟨trivial, ?_⟩; gi_at_call 50; refine (callsIn_wide.2 HNo.out).mono ?_; rintro e w1 ⟨rfl, rfl⟩)
    | (refine ⟨trivial, ?_⟩; gi_at_call 26; refine (callsIn_wide.2 (new_tab seed _)).mono ?_; rintro e w2 ⟨tb2, rfl, hnew, hg2⟩; have m_0 := (hg2.alloc (.cells #[.pointer (some ⟨tb2, 0, none⟩)] 31)).cell' (cell_of (heap_alloc_new w (.cells #[.pointer (some ⟨tb, 0, none⟩)] 31)) (i := 0) rfl))
    | (refine ⟨trivial, ?_⟩; gi_at_call 45; refine (callsIn_wide.2 (all_tab tb eK eK _)).mono ?_; rintro e w3 ⟨rfl, hc1, hc2, hc3, hcs, hg3⟩))
  have hX1 : Gr w (w2.alloc (.cells #[.pointer (some ⟨tb2, 0, none⟩)] 31)) := (hX0.trans hg2).alloc _
  have hI0 : CpI R tb w.heap.size w2.heap.size tb2 (w2.heap.size + 1) (w2.heap.size + 1 + 1) (w2.heap.size + 1 + 2) w [] w3 := by
    simp only [World.size_alloc] at hc1 hc2 hc3
    refine ⟨hX1.trans hg3, ((hnew.gr ((Gr.refl w2).alloc _)).gr hg3).mono (fun k hk => Nat.le_trans hX0.size hk), hg3.blk (((hg2.alloc _)).blk (heap_alloc_new w _)), hg3.blk (heap_alloc_new w2 _), hc1, hc2, hc3⟩
  have HI0 := Lib.hid hI0
  have HZ : Hid (w.heap.size ≤ w3.heap.size) := Lib.hid hI0.g.size
  simp only [World.size_alloc] at hc1 hc2 hc3 hcs
  clear hc1 hc2 hc3 hcs hg2 hg3 hnew hX1 hX0 m_0 k_0 k_1 k_2 g_0 g_1 g_2 l_0
  refine wpIn_rangeFunc_ownG rfl (by decide) (gf := 73) (lb := #[.pointer (some ⟨w2.heap.size + 1, 0, none⟩), .pointer (some ⟨w2.heap.size + 1 + 1, 0, none⟩), .pointer (some ⟨w2.heap.size + 1 + 2, 0, none⟩)]) rfl trivial (enters_of Tryz.func73 (by kernel_rfl) rfl)
    (all_stops_in 2 (by decide) (fun W W' => ItAt tb (w2.heap.size + 1) (w2.heap.size + 1 + 1) (w2.heap.size + 1 + 2) S R eK eK W → ItAt tb (w2.heap.size + 1) (w2.heap.size + 1 + 1) (w2.heap.size + 1 + 2) S R eK eK W') (fun W W' h k => k h) HSz.out w3 (HI0.out.it HT.out))
    (fun h k x => k (h x)) (fun W l o o' _ ho hc hw hit => hit.grown (grownBy_putObj' W l o') (fun r e => by cases e; exact ⟨o, ho, hc⟩)) (Below.refl _ _) (fun _ => rfl)
    (CpI R tb w.heap.size w2.heap.size tb2 (w2.heap.size + 1) (w2.heap.size + 1 + 1) (w2.heap.size + 1 + 2) w) (fun _ _ _ => False) (CpI.own HZ.out) (fun _ _ _ _ _ hs _ _ => hs) HI0.out ?a1 ?assign ?body ?done ?stop
  case assign =>
    intro l x W K hK
    simp only [encI, List.zip_toArray, List.zip_cons_cons, List.zip_nil_left, List.zip_nil_right, ← Array.foldl_toList, List.foldl_cons, List.foldl_nil, List.setIfInBounds_toArray, List.set_cons_zero, List.set_cons_succ]
    gi_wp2
    exact hK
  case stop =>
    rintro D c pre W _ _ h _
    exact h.elim
  case done =>
    rintro D ys W hD hys hI hK
    have hnew := hI.new
    rw [hys, HBt.out, cp_all HRi.out] at hnew
    have hg := hI.g
    obtain ⟨k_0, g_0, l_0⟩ := blk1 hI.s3
    clear hI HI0
    gi_wp2
    refine ⟨by simp, .inl ⟨_, _, rfl, run_takeDeferred hK, ?_⟩⟩
    refine ⟨_, results_tmp rfl _ _ _, tb2, rfl, hnew.grown (grownBy_putObj' W D _) (fun r e => by cases e; exact ⟨_, hK, rfl⟩), hg.grown (grownBy_putObj' W D _) (fun k e => by cases e; exact Nat.le_trans HZ.out hD)⟩
  case body =>
    rintro l pre x W hI hlt2
    obtain ⟨lb2, H2, bx2, L2, xx2, seed2, v1, v2, v3, v4, v5, v6⟩ := hI.new.ex
    have HI := Lib.hid hI
    have HS2 := Lib.hid v3
    have HL2 := Lib.hid v4
    have HV1 := Lib.hid v1
    have HV2 := Lib.hid v2
    have HV5 := Lib.hid v5
    have HV6 := Lib.hid v6
    have HLen : Hid (L2.length < 4611686018427387904) := Lib.hid (by
      have h1 := cp_len (pre.map (·.1))
      rw [← v4, List.length_map] at h1
      unfold rowsL at h1
      rw [List.length_map] at h1
      have := HR.out
      omega)
    have HStp := Lib.hid (fun W' (hg : Gr W W') => steps_sk (HL.out.gr (hI.g.trans hg)) (key := x.1.1) (by rw [HL4.out]; exact get_some HRi.out x.2))
    have A0 := frt_rule (S := fun k => w.heap.size ≤ k) hI.s3 ⟨by decide, by decide⟩ (i := 0) rfl
    have A1 := frt_rule (S := fun k => w.heap.size ≤ k) v1 ⟨by decide, by decide⟩ (i := 0) rfl
    have A2 := frt_rule (S := fun k => w.heap.size ≤ k) hI.t0 ⟨by decide, by decide⟩ (i := 0) rfl
    have A3 := frt_rule (S := fun k => w.heap.size ≤ k) (hI.g.blk HU1.out) ⟨by decide, by decide⟩ (i := 0) rfl
    clear HI0 hI v1 v2 v3 v4 v5 v6
    gi_wp2
    refine wpIn_region_held_drew (S := fun w' => FrT (fun k => w.heap.size ≤ k) W.drew w') (by kernel_rfl) (by kernel_rfl) (fun ⟨_, _, h⟩ => h) (FrT.refl _ _) (fun hHeld => ?_)
    try dsimp only at hHeld
    refine wpAnyH_take (i := 0) rfl (by kernel_rfl) (by kernel_rfl) (by kernel_rfl) (fun _ _ _ h => h) (Or.inl ⟨by rfl, by intro w hSw; (try dsimp only at hSw); go_simp; (try with_reducible rfl)⟩) (by assumption) ?_; (try simp only [Act.put, List.setIfInBounds_toArray, List.set_cons_zero, List.set_cons_succ, List.getElem_toArray, List.getElem_cons_zero, List.getElem_cons_succ])
    refine wpAnyH_take (i := 1) rfl (by kernel_rfl) (by kernel_rfl) (by kernel_rfl) (fun _ _ _ h => h) (Or.inl ⟨by rfl, by intro w hSw; (try dsimp only at hSw); go_simp; (try with_reducible rfl)⟩) (by assumption) ?_; (try simp only [Act.put, List.setIfInBounds_toArray, List.set_cons_zero, List.set_cons_succ, List.getElem_toArray, List.getElem_cons_zero, List.getElem_cons_succ])
    refine wpAnyH_take (i := 2) rfl (by kernel_rfl) (by kernel_rfl) (by kernel_rfl) (fun _ _ _ h => h) (Or.inl ⟨by rfl, by intro w hSw; (try dsimp only at hSw); go_simp; (try with_reducible rfl)⟩) (by assumption) ?_; (try simp only [Act.put, List.setIfInBounds_toArray, List.set_cons_zero, List.set_cons_succ, List.getElem_toArray, List.getElem_cons_zero, List.getElem_cons_succ])
    refine wpAnyH_take (i := 3) rfl (by kernel_rfl) (by kernel_rfl) (by kernel_rfl) (fun _ _ _ h => h) (Or.inl ⟨by rfl, by intro w hSw; (try dsimp only at hSw); go_simp; (try with_reducible rfl)⟩) (by assumption) ?_; (try simp only [Act.put, List.setIfInBounds_toArray, List.set_cons_zero, List.set_cons_succ, List.getElem_toArray, List.getElem_cons_zero, List.getElem_cons_succ])
    refine wpAnyH_take (i := 4) rfl (by kernel_rfl) (by kernel_rfl) (by kernel_rfl) (fun _ _ _ h => h) (Or.inl ⟨by rfl, by intro w hSw; (try dsimp only at hSw); go_simp; (try with_reducible rfl)⟩) (by assumption) ?_; (try simp only [Act.put, List.setIfInBounds_toArray, List.set_cons_zero, List.set_cons_succ, List.getElem_toArray, List.getElem_cons_zero, List.getElem_cons_succ])
    refine wpAnyH_take (i := 5) rfl (by kernel_rfl) (by kernel_rfl) (by kernel_rfl) (fun _ _ _ h => h) (Or.inl ⟨by rfl, by intro w hSw; (try dsimp only at hSw); go_simp; (try with_reducible rfl)⟩) (by assumption) ?_; (try simp only [Act.put, List.setIfInBounds_toArray, List.set_cons_zero, List.set_cons_succ, List.getElem_toArray, List.getElem_cons_zero, List.getElem_cons_succ])
    refine wpAnyH_take (i := 6) rfl (by kernel_rfl) (by kernel_rfl) (by kernel_rfl) (fun _ _ _ h => h) (Or.inl ⟨by rfl, by intro w hSw; (try dsimp only at hSw); go_simp; (try with_reducible rfl)⟩) (by assumption) ?_; (try simp only [Act.put, List.setIfInBounds_toArray, List.set_cons_zero, List.set_cons_succ, List.getElem_toArray, List.getElem_cons_zero, List.getElem_cons_succ])
    refine wpAnyH_take (i := 7) rfl (by kernel_rfl) (by kernel_rfl) (by kernel_rfl) (fun _ _ _ h => h) (Or.inl ⟨by rfl, by intro w hSw; (try dsimp only at hSw); go_simp; (try with_reducible rfl)⟩) (by assumption) ?_; (try simp only [Act.put, List.setIfInBounds_toArray, List.set_cons_zero, List.set_cons_succ, List.getElem_toArray, List.getElem_cons_zero, List.getElem_cons_succ])
    refine wpAnyH_take (i := 8) rfl (by kernel_rfl) (by kernel_rfl) (by kernel_rfl) (fun _ _ _ h => h) (Or.inl ⟨by rfl, by intro w hSw; (try dsimp only at hSw); go_simp; (try with_reducible rfl)⟩) (by assumption) ?_; (try simp only [Act.put, List.setIfInBounds_toArray, List.set_cons_zero, List.set_cons_succ, List.getElem_toArray, List.getElem_cons_zero, List.getElem_cons_succ])
    refine wpAnyH_take (i := 9) rfl (by kernel_rfl) (by kernel_rfl) (by kernel_rfl) (fun _ _ _ h => h) (Or.inl ⟨by rfl, by intro w hSw; (try dsimp only at hSw); go_simp; (try with_reducible rfl)⟩) (by assumption) ?_; (try simp only [Act.put, List.setIfInBounds_toArray, List.set_cons_zero, List.set_cons_succ, List.getElem_toArray, List.getElem_cons_zero, List.getElem_cons_succ])
    refine wpAnyH_take (i := 10) rfl (by kernel_rfl) (by kernel_rfl) (by kernel_rfl) (fun _ _ _ h => h) (Or.inl ⟨by rfl, by intro w hSw; (try dsimp only at hSw); go_simp; (try with_reducible rfl)⟩) (by assumption) ?_; (try simp only [Act.put, List.setIfInBounds_toArray, List.set_cons_zero, List.set_cons_succ, List.getElem_toArray, List.getElem_cons_zero, List.getElem_cons_succ])
    refine wpAnyH_ready (rs := [11]) (by kernel_rfl) (by simp) ?_
    refine AllReadyH.cons rfl (fun K hK => ?_) AllReadyH.nil
    go_simp
    refine (HStp.out _ (Gr.refl W).drew).mono ?_
    rintro e u0 ⟨s, rfl, hs1, hs2, hg⟩
    refine hK.out _ _ (FrT.gr hg) (fun hHeld => ?_)
    have HG0 : Hid (Gr W u0) := Lib.hid ((Gr.refl W).drew.trans hg)
    have HF0 := Lib.hid hHeld
    clear hK K hg hHeld
    refine wpAnyH_ready (rs := [12]) (by kernel_rfl) (by simp) ?_
    refine AllReadyH.cons rfl (fun K hK => ?_) AllReadyH.nil
    go_simp
    refine (put_sk (HS2.out.gr HG0.out) x.1.1 x.1.2 s ⟨hs1, hs2⟩ HLen.out).mono ?_
    rintro e u1 ⟨rfl, ⟨L', hr, hs'⟩, hf⟩
    have hfx : FrT (fun k => w.heap.size ≤ k) W.drew u1 := HF0.out.trans hf (fun k hk _ => by
      rcases hk with hk | hk
      · exact hk
      · exact Nat.le_trans (Nat.le_trans HI.out.g.size HG0.out.size) hk)
    refine hK.out _ _ hfx (fun _ => ?_)
    clear hK K
    refine wpAnyH_done (by kernel_rfl) ?_ _
    have HX := Lib.hid hfx
    have HS' := Lib.hid hs'
    have HR' := Lib.hid hr
    clear A0 A1 A2 A3 hfx hf hs' hr
    gi_wp2
    have hf := HX.out
    have hs' := HS'.out
    have hr := HR'.out
    have hI := HI.out
    have hg1 : Gr w u1 := frt_toGr hI.g.drew hf (fun k hk => hk)
    have hz : w.heap.size ≤ u0.heap.size := Nat.le_trans hI.g.size HG0.out.size
    have hI1 : CpI R tb w.heap.size w2.heap.size tb2 (w2.heap.size + 1) (w2.heap.size + 1 + 1) (w2.heap.size + 1 + 2) w (pre ++ [x]) u1 := by
      refine ⟨hg1, ⟨lb2, H2, bx2, L', xx2, seed2, frt_cells hf (heap_drew HV1.out) ⟨by decide, by decide⟩, frt_cells hf (heap_drew HV2.out) ⟨by decide, by decide⟩, hs'.mono (fun k hk => ?_), ?_, HV5.out, HV6.out⟩,
        frt_cells hf (heap_drew hI.t0) ⟨by decide, by decide⟩, frt_cells hf (heap_drew hI.s3) ⟨by decide, by decide⟩, frt_cells hf (heap_drew hI.t1) ⟨by decide, by decide⟩, frt_cells hf (heap_drew hI.t2) ⟨by decide, by decide⟩, frt_cells hf (heap_drew hI.t3) ⟨by decide, by decide⟩⟩
      · rcases hk with hk | hk
        · exact hk
        · exact Nat.le_trans hz hk
      · rw [List.map_append, List.map_cons, List.map_nil, cp_snoc, hr, HL2.out]
    have hko : KeepsOthers W u1 := ⟨hf.size, fun k o ho hc => hf.blk k o ho (fun _ hi => by
      rcases hi with ⟨cs', fz', h1 | h1⟩ <;> (rw [h1] at hc; cases hc))⟩
    exact ⟨hko.from _, fun _ => hI1.it HT.out, hI1⟩
end Go.Proofs.YthgecojbggoniaaGreatDoor
namespace Go.Proofs.YthgecojbggoniaaGreatDoor
open Go.RowKit
set_option maxRecDepth 100000
set_option linter.unusedVariables false
set_option linter.unusedSimpArgs false
set_option linter.unnecessarySimpa false

structure Fnd where
  key : ByteArray
  val : ByteArray
  is : Bool
  own : Bool
  sw : Int
  sl : Int
  way : Itt
def itt0 : Itt := ⟨0, 0, 0, ⟨#[]⟩, 0, 0, 0, 0, []⟩
def fnd0 : Fnd := ⟨⟨#[]⟩, ⟨#[]⟩, false, false, 0, 0, itt0⟩
def fndA (f : Fnd) (vl : Value) : Array Value := #[.string f.key, .string f.val, .bool f.is, .bool f.own, .int .i64 f.sw, .int .i64 f.sl, .int .i64 f.way.id, .int .i64 f.way.epoch, .int .i64 f.way.prio, .string f.way.anchor, .int .i64 f.way.sw, .int .i64 f.way.sl, .int .i64 f.way.bw, .int .i64 f.way.bl, vl]
def intentR (R : List Rw) (key : ByteArray) : Option Itt := (getR (ofL (intentKeyR key.data.toList).1) R).bind (fun s => takeIttR s.data.toList)
def vOk (x : Rw) : Bool := rdk x && tvk x
def verRow (R : List Rw) (key : ByteArray) (a b : Int) : Option Rw := (betweenR (ofL (versionKeyR key.data.toList a b).1) (ofL (versionKeyR key.data.toList 0 0).1 ++ nul) R).find? vOk
def verF (R : List Rw) (key : ByteArray) (a b : Int) : Fnd × Bool := match verRow R key a b with
  | some x => (⟨key, ⟨(takeVerR x.2.data.toList).1.toArray⟩, isV x, false, sa x, sb x, itt0⟩, true)
  | none => (⟨key, ⟨#[]⟩, false, false, 0, 0, itt0⟩, false)
def restF (R : List Rw) (key : ByteArray) (x : Tx) : Fnd × Int :=
  if ((verF R key (topS x).1 (topS x).2).2 && !lessS (verF R key (topS x).1 (topS x).2).1.sw (verF R key (topS x).1 (topS x).2).1.sl x.rw x.rl) = true then (⟨key, ⟨#[]⟩, false, false, (verF R key (topS x).1 (topS x).2).1.sw, (verF R key (topS x).1 (topS x).2).1.sl, itt0⟩, 121)
  else ((verF R key (topS x).1 (topS x).2).1, 0)
def lastC (l : List Chg) : Chg := l.getLast?.getD ⟨0, ⟨#[]⟩, false⟩
def foundF (R : List Rw) (key : ByteArray) (x : Tx) : Fnd × Int := match intentR R key with
  | none => restF R key x
  | some y =>
    if y.id = x.id then
      if x.ep < y.epoch then (fnd0, 201)
      else if y.epoch = x.ep then (⟨key, (lastC y.l).value, !(lastC y.l).del, true, y.sw, y.sl, itt0⟩, 0)
      else restF R key x
    else if (!lessS (topS x).1 (topS x).2 y.sw y.sl) = true then (⟨key, ⟨#[]⟩, false, false, 0, 0, y⟩, 120)
    else restF R key x
def keyOk (key : ByteArray) : Bool := decide (1 ≤ key.size ∧ key.size ≤ 32)
def getF (R : List Rw) (key : ByteArray) (x : Tx) (a b : Int) : Fnd × Int := if beginsE (keyOk key) x a b ≠ 0 then (fnd0, beginsE (keyOk key) x a b) else foundF R key x
end Go.Proofs.YthgecojbggoniaaGreatDoor
