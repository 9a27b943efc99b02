/- What the rows stand on, part 29: RowX, TabE. Printed by bundle.py out of my texts. -/
import Derived.Test.YthgecojbggoniaaGreatDoorBd01
import Derived.Test.YthgecojbggoniaaGreatDoorBd25
import Derived.Test.YthgecojbggoniaaGreatDoorBd26
import Derived.Test.YthgecojbggoniaaGreatDoorBd27
import Derived.Test.YthgecojbggoniaaGreatDoorCards
import Derived.Test.YthgecojbggoniaaGreatDoorTie
import Derived.ProofKit
import Derived.OpenShut
import Derived.Deep.DeepHandedRow
import Derived.SizedLaws
import Derived.ShutString
import Derived.Lib.SmallJoins
import Derived.Carry
namespace Go.Proofs.YthgecojbggoniaaGreatDoor
open Go.ChangeShapes Go.WideShapes Go.ChangeAt Go.RowKit

theorem own : ownKnob Tryz.prog.godebug = none := by kernel_rfl
theorem laidOut : laidOutB Tryz.prog = true := by kernel_rfl

def litV : DataW Unit → Value
  | .lit (.int k n) => .int k n
  | _ => undef
def flat1 : DataW Unit → List Value
  | .agg l => l.map litV
  | d => [litV d]
def flat2 : DataW Unit → List Value
  | .agg l => l.flatMap flat1
  | d => [litV d]
def layTab (d : DataW Unit) : Obj → Obj
  | .cells _ t frozen => .cells (flat2 d).toArray t frozen
  | o => o
noncomputable def laidWorld (os : Os) : World :=
  { World.holding Tryz.prog os ⟨#[], #[], []⟩ with heap := ((World.holding Tryz.prog os ⟨#[], #[], []⟩).heap.modify 1 (layTab Go.Pinned.utf8First)).modify 2 (layTab Rows.laid_unicode_utf8_acceptRanges) }

section
variable {H : Type} {enc : TypeId × Value → H} {P : Program} {w : World} {base b0 : Nat} {spare : Nat → Bool} {held : Bool} {r : Reach} {t e : TypeId} {v : Value} {d : DataW H} {p : List MemPlace}

theorem trod_below (h : DataW.Trod enc P w base spare held t v d p) : ∀ x ∈ p, x.block < w.heap.size := by
  obtain ⟨n, hn⟩ := h
  exact fun x hx => DataW.trod_lt n _ _ _ hn x hx

end
end Go.Proofs.YthgecojbggoniaaGreatDoor
namespace Go.Proofs.YthgecojbggoniaaGreatDoor
open Go.ChangeShapes Go.WideShapes Go.ChangeAt Go.RowKit
set_option linter.unusedVariables false

section
variable {M : Nat} {w : World} {v : Value} {D : Dat}
def shStamp : Sh0 := .st [.int, .int]
theorem rep_stamp {cs : List Value} (h : rep M w shStamp cs D) : ∃ a b : Int, cs = [.int .i64 a, .int .i64 b] ∧ (-9223372036854775808 ≤ a ∧ a ≤ 9223372036854775807) ∧ (-9223372036854775808 ≤ b ∧ b ≤ 9223372036854775807) := by
  simp only [shStamp, rep_st, reps_cons, reps_nil, rep_int] at h
  obtain ⟨_, rfl, a, b, _, _, rfl, rfl, ⟨x, rfl, rfl, h1⟩, c, d, _, _, rfl, rfl, ⟨y, rfl, rfl, h2⟩, rfl, rfl⟩ := h
  exact ⟨x, y, rfl, h1, h2⟩
theorem arg_stamp (h : repV M w shStamp v D) : ∃ a b : Int, v = .agg #[.int .i64 a, .int .i64 b] ∧ (-9223372036854775808 ≤ a ∧ a ≤ 9223372036854775807) ∧ (-9223372036854775808 ≤ b ∧ b ≤ 9223372036854775807) := by
  obtain ⟨cs, rfl, hr⟩ := h
  obtain ⟨a, b, rfl, h1, h2⟩ := rep_stamp hr
  exact ⟨a, b, rfl, h1, h2⟩
end
end Go.Proofs.YthgecojbggoniaaGreatDoor
namespace Go.Proofs.YthgecojbggoniaaGreatDoor
open Go.RowKit Go.Shelf
set_option maxRecDepth 100000
set_option linter.unusedVariables false
set_option linter.unusedSimpArgs false
set_option linter.unnecessarySimpa false
attribute [local go_sem] Oper.semAt_some

theorem get_tab {tb : Nat} {S : Nat → Prop} {R : List Rw} {w : World} (h : TabAt tb S R w) (key : ByteArray) : Calls Tryz.prog 22 #[.pointer (some ⟨tb, 0, none⟩), .string key] w fun e w' => e = .returned (.tuple (outS (getR key R))) ∧ Gr w w' := by
  obtain ⟨lb, H, bx, L, x, seed, t1, t2, t3, t4, t5, t6⟩ := h.ex
  have HN := Lib.hid (tab_none (lv := .pointer none) t1)
  have HG : Hid (∀ v, getR key R = v → Calls Tryz.prog 51 #[.pointer (some ⟨lb, 0, none⟩), .string key] w fun e w' => e = .returned (.tuple (outS v)) ∧ Gr w w') := Lib.hid (fun v hv => get_row t3 key (by rw [t4]; exact hv))
  obtain ⟨k_0, k_1, k_2, g_0, g_1, g_2, l_0⟩ := blk3 t1
  clear h t1 t2 t3 t4 t5 t6
  cases hv : getR key R with
  | none =>
    have H1 := Lib.hid (HG.out _ hv)
    simp only [outS] at H1 ⊢
    clear HG hv
    go_enter Tryz.func22, Tryz.ntmps22
    go_wp2_with (first | (go_at_call 50; refine HN.out.mono ?_; rintro e w1 ⟨rfl, rfl⟩) | (go_at_call 51; refine H1.out.mono ?_; rintro e w1 ⟨rfl, hg⟩))
    go_ret2
    exact ⟨rfl, hg⟩
  | some s =>
    have H1 := Lib.hid (HG.out _ hv)
    simp only [outS] at H1 ⊢
    clear HG hv
    go_enter Tryz.func22, Tryz.ntmps22
    go_wp2_with (first | (go_at_call 50; refine HN.out.mono ?_; rintro e w1 ⟨rfl, rfl⟩) | (go_at_call 51; refine H1.out.mono ?_; rintro e w1 ⟨rfl, hg⟩))
    go_ret2
    exact ⟨rfl, hg⟩
/-! Rows -/
def eK : ByteArray := ⟨#[]⟩
theorem between_all (R : List Rw) : betweenR eK eK R = R := by
  have he : eK.toList = [] := by rw [ByteArray.toList_eq]; rfl
  have h1 : ∀ x : Rw, klt x.1 eK = false := fun x => by
    unfold klt
    rw [he]
    cases x.1.toList <;> rfl
  have h2 : aboveR eK R = R := by
    unfold aboveR
    cases R with
    | nil => rfl
    | cons x r => rw [List.dropWhile_cons, h1]; rfl
  have h3 : ∀ l : List Rw, l.takeWhile (fun x => eK.toList.isEmpty || klt x.1 eK) = l := by
    intro l
    rw [he]
    induction l with
    | nil => rfl
    | cons x r ih => rw [List.takeWhile_cons, if_pos (by rfl), ih]
  unfold betweenR untilR
  rw [h2, h3]
structure RwS (tb b3 c1 c2 c3 : Nat) (w0 : World) (pr : List RwB) (W : World) : Prop where
  g : Gr w0 W
  out : ∃ v, W.heap[b3]? = some (.cells #[v] 58) ∧ OwnG 94 2 rowC W w0.heap.size v (pr.map (·.1))
  t1 : W.heap[c1]? = some (.cells #[.pointer (some ⟨tb, 0, none⟩)] 31)
  t2 : W.heap[c2]? = some (.cells #[.string eK] 9)
  t3 : W.heap[c3]? = some (.cells #[.string eK] 9)
theorem RwS.own {tb b3 c1 c2 c3 : Nat} {w0 : World} {B : Nat} (hB : w0.heap.size ≤ B) : OwnFrom B (RwS tb b3 c1 c2 c3 w0) := by
  intro pre W W' row h hg hr
  have hr2 : ∀ r, row = some r → ∃ o : Obj, W.heap[r]? = some o ∧ o.isCells = false := fun r e => (hr r e).2
  have hc := fun {b : Nat} {cs : Array Value} {t : TypeId} {fz : Nat × Nat} (hh : W.heap[b]? = some (.cells cs t fz)) => grown_cells hg hr2 hh
  obtain ⟨v, h1, h2⟩ := h.out
  exact ⟨h.g.grown hg (fun k e => Nat.le_trans hB (hr k e).1), ⟨v, hc h1, h2.kept (fun g c f hh => hc hh)⟩, hc h.t1, hc h.t2, hc h.t3⟩
theorem RwS.it {tb b3 c1 c2 c3 : Nat} {w0 W : World} {pre : List RwB} {S : Nat → Prop} {R : List Rw} (h : RwS tb b3 c1 c2 c3 w0 pre W) (ht : TabAt tb S R w0) : ItAt tb c1 c2 c3 S R eK eK W := ⟨ht.gr h.g, h.t1, h.t2, h.t3⟩
theorem row_put {tb b3 c1 c2 c3 : Nat} {w0 W6 w7 : World} {pr : List RwB} {x : RwB} {N : Obj} {v v' : Value} (h : RwS tb b3 c1 c2 c3 w0 pr W6) (v1 : W6.heap[b3]? = some (.cells #[v] 58)) (v2 : OwnG 94 2 rowC W6 w0.heap.size v (pr.map (·.1)))
    (hgr : (W6.alloc N).grownBy w7 v.ownBlock) (hown : w7.ownsRow w0.heap.size 94 2 v' ((pr.map (·.1)).length + 1) ((pr.map (·.1)).flatMap rowC ++ rowC x.1)) (h11 : w0.heap.size ≤ b3) :
    RwS tb b3 c1 c2 c3 w0 (pr ++ [x]) (w7.setCell ⟨b3, 0, none⟩ v') ∧ KeepsOthers W6 (w7.setCell ⟨b3, 0, none⟩ v') := by
  have hrow : ∀ k, v.ownBlock = some k → ∃ cs, W6.heap[k]? = some (.cells cs 94) ∧ w0.heap.size ≤ k := by
    intro k hk
    rcases v2.2 with ⟨rfl, _⟩ | ⟨g, cap, cur, rfl, h1, h2, _⟩
    · cases hk
    · cases hk; exact ⟨cur, h2, h1⟩
  have ha : ∀ (k : Nat) (o' : Obj), (∀ cs, o' ≠ .cells cs 94) → W6.heap[k]? = some o' → w7.heap[k]? = some o' := by
    intro k o' hne hk
    have hk2 : (W6.alloc N).heap[k]? = some o' := heap_alloc1 hk
    rw [hgr.block k (Array.getElem?_eq_some_iff.1 hk2).1 (fun e => ?_), hk2]
    obtain ⟨cs, h1, _⟩ := hrow k e.symm
    rw [hk] at h1
    cases h1
    exact hne _ rfl
  have hb : ∀ (k : Nat) (cs : Array Value) (t : TypeId), t ≠ 94 → t ≠ 58 → W6.heap[k]? = some (.cells cs t) → (w7.setCell ⟨b3, 0, none⟩ v').heap[k]? = some (.cells cs t) := by
    intro k cs t h1 h2 hk
    refine heap_set_other (ha k _ (fun cs' e => by cases e; exact h1 rfl) hk) _ _ (fun e => ?_)
    simp only at e
    rw [← e, v1] at hk
    cases hk
    exact h2 rfl
  have hv7 := ha _ _ (fun cs' e => by cases e) v1
  refine ⟨⟨((h.g.alloc N).grown hgr (fun k e => (hrow k e).elim fun _ h => h.2)).setCell (p := ⟨b3, 0, none⟩) h11 _, ⟨v', heap_set hv7 0 _, ?_⟩, hb _ _ _ (by decide) (by decide) h.t1, hb _ _ _ (by decide) (by decide) h.t2, hb _ _ _ (by decide) (by decide) h.t3⟩, ⟨?_, fun k o' ho hc => ?_⟩⟩
  · have h1 : OwnG 94 2 rowC w7 w0.heap.size v' ((pr ++ [x]).map (·.1)) := by
      unfold OwnG
      rw [List.map_append, List.flatMap_append, List.length_append]
      simpa using hown
    exact h1.kept (fun g c f hh => heap_set_other hh _ _ (fun e => by simp only at e; rw [← e, hv7] at hh; cases hh))
  · have := hgr.size
    simp at this ⊢
    omega
  · refine heap_set_other (ha k o' (fun cs e => by rw [e] at hc; cases hc) ho) _ _ (fun e => ?_)
    simp only at e
    rw [← e, v1] at ho
    cases ho
    cases hc
theorem row_keep {b11 : Nat} {w0 W6 w7 : World} {N : Obj} {v : Value} {L : List Rw} (v1 : W6.heap[b11]? = some (.cells #[v] 58)) (v2 : OwnG 94 2 rowC W6 w0.heap.size v L) (hgr : (W6.alloc N).grownBy w7 v.ownBlock) : w7.heap[b11]? = some (.cells #[v] 58) := by
  have hk2 : (W6.alloc N).heap[b11]? = some (.cells #[v] 58) := heap_alloc1 v1
  rw [hgr.block b11 (Array.getElem?_eq_some_iff.1 hk2).1 (fun e => ?_), hk2]
  rcases v2.2 with ⟨rfl, _⟩ | ⟨g, cap, cur, rfl, h1, h2, _⟩
  · cases e
  · cases e
    rw [v1] at h2
    cases h2
theorem one_row (W : World) (x : Rw) : ∀ (j : Nat) (u : Value), (rowC x)[j]? = some u → (W.alloc (.cells #[.string x.1, .string x.2] 94)).cell? ((⟨W.heap.size, 0, none⟩ : Addr).add j) = some u := by
  intro j u hj
  have hb := heap_alloc_new W (Obj.cells #[.string x.1, .string x.2] 94)
  rw [Addr.add_lit, Nat.zero_add]
  exact cell_of hb (by simpa [rowC] using hj)
set_option maxHeartbeats 8000000 in
theorem rows_tab {tb : Nat} {S : Nat → Prop} {R : List Rw} {w : World} (h : TabAt tb S R w) (hsz : ∀ x ∈ R, x.1.size < 140737488355328 ∧ x.2.size ≤ 140737488351232) (hR : R.length ≤ 1000000000) :
    Calls Tryz.prog 19 #[.pointer (some ⟨tb, 0, none⟩)] w fun e w' => ∃ v, e = .returned v ∧ OwnG 94 2 rowC w' w.heap.size v R ∧ Gr w w' := by
  obtain ⟨i0, hi0, hz0, hz1, hz2⟩ := info_parts elRow.info
  have HT := Lib.hid h
  have HSz := Lib.hid hsz
  have HR : Hid ((betweenR eK eK R).length ≤ 1000000000) := Lib.hid (by rw [between_all]; exact hR)
  have HBt := Lib.hid (between_all R)
  clear h hsz hR
  refine (callsIn_wide (n := 3)).1 ?_
  refine callsIn_of_wp_marks Tryz.func19 rfl trivial ?_ rfl
  simp only [Tryz.ntmps19, List.size_toArray, List.length_cons, List.length_nil, Nat.reduceAdd, Nat.reduceSub, Array.replicate_succ, Array.replicate_zero, List.push_toArray, List.append_toArray, List.nil_append, List.cons_append]
  gi_wp2_with (first
    | (refine ⟨trivial, ?_⟩; gi_at_call 45; refine (callsIn_wide.2 (all_tab tb eK eK _)).mono ?_; rintro e w2 ⟨rfl, hc1, hc2, hc3, hcs, hg2⟩))
  have p3 : w2.heap[w.heap.size]? = some (.cells #[.slice none 0 0] 58) := hg2.blk (heap_alloc_new _ _)
  simp only [World.size_alloc] at hc1 hc2 hc3 hcs
  have hI0 : RwS tb w.heap.size (w.heap.size + 1) (w.heap.size + 1 + 1) (w.heap.size + 1 + 2) w [] w2 := ⟨((Gr.refl w).alloc _).trans hg2, ⟨_, p3, OwnG.nil _ _⟩, hc1, hc2, hc3⟩
  have HI0 := Lib.hid hI0
  have HZ : Hid (w.heap.size ≤ w2.heap.size) := Lib.hid hI0.g.size
  clear hc1 hc2 hc3 hcs hg2 p3 hI0
  refine wpIn_rangeFunc_ownG rfl (by decide) (gf := 73) (lb := #[.pointer (some ⟨w.heap.size + 1, 0, none⟩), .pointer (some ⟨w.heap.size + 1 + 1, 0, none⟩), .pointer (some ⟨w.heap.size + 1 + 2, 0, none⟩)]) rfl trivial (enters_of Tryz.func73 (by kernel_rfl) rfl)
    (all_stops 2 (by decide) (fun W W' => ItAt tb (w.heap.size + 1) (w.heap.size + 1 + 1) (w.heap.size + 1 + 2) S R eK eK W → ItAt tb (w.heap.size + 1) (w.heap.size + 1 + 1) (w.heap.size + 1 + 2) S R eK eK W') (fun W W' h k => k h) HSz.out w2 (HI0.out.it HT.out))
    (fun h k x => k (h x)) (fun W l o o' _ ho hc hw hit => hit.grown (grownBy_putObj' W l o') (fun r e => by cases e; exact ⟨o, ho, hc⟩)) (Below.refl _ _) (fun _ => rfl)
    (RwS tb w.heap.size (w.heap.size + 1) (w.heap.size + 1 + 1) (w.heap.size + 1 + 2) w) (fun _ _ _ => False) (RwS.own HZ.out) (fun _ _ _ _ _ hs _ _ => hs) HI0.out ?a1 ?assign ?body ?done ?stop
  case assign =>
    intro l x W K hK
    simp only [encR, List.zip_toArray, List.zip_cons_cons, List.zip_nil_left, List.zip_nil_right, ← Array.foldl_toList, List.foldl_cons, List.foldl_nil, List.setIfInBounds_toArray, List.set_cons_zero, List.set_cons_succ]
    gi_wp2
    exact hK
  case stop =>
    rintro D c pre W _ _ h _
    exact h.elim
  case done =>
    rintro D ys W hD hys hI hK
    obtain ⟨v, hv, hown⟩ := hI.out
    rw [hys, HBt.out] at hown
    obtain ⟨q, c, hvq⟩ := hown.slice
    have hg := hI.g
    obtain ⟨k_0, g_0, l_0⟩ := blk1 hv
    clear hI HI0 hv
    gi_wp2
    refine ⟨by simp, .inl ⟨_, _, rfl, run_takeDeferred hK, ?_⟩⟩
    refine ⟨_, results_tmp rfl _ _ _, v, ?_, ownsRow_putObj hown _ hK rfl, hg.grown (grownBy_putObj' W D _) (fun k e => by cases e; exact Nat.le_trans HZ.out hD)⟩
    rw [hvq]; rfl
  case body =>
    rintro l pre x W hI hlt2
    have HI := Lib.hid hI
    obtain ⟨v, v1, v2⟩ := hI.out
    obtain ⟨vq, vc, vz, rfl⟩ := slice_any v2
    obtain ⟨y_0, yf_0, yl_0⟩ := blk1 v1
    have HB3 : Hid ((pre.map (·.1)).length + 1 ≤ 1000000001) := Lib.hid (by have := HR.out; rw [List.length_map]; omega)
    have HZW : Hid (w.heap.size ≤ W.heap.size) := Lib.hid hI.g.size
    have HV1 := Lib.hid v1
    have HV2 := Lib.hid v2
    clear HI0 hI v1 v2
    gi_wp2_with (first
      | (gi_at_builtin; have v2 := HV2.out; refine wpListIn_append_own _ rfl _ _ 58 rfl w.heap.size 94 i0 _ 2 32 Tryz.underlying58 hi0 hz0 hz1 hz2 rfl (by decide) _ _ _ rfl (OwnG.gr (l := pre.map (·.1)) ((Gr.refl _).alloc _) v2) ⟨W.heap.size, 0, none⟩ 1 1 (rowC x.1) rfl rfl (one_row W x.1) (encRow.one _) (by have := HB3.out; unfold maxLen; omega) (by have := HB3.out; omega) (by have := HZW.out; simp; omega) ?_; intro v' w7 hown' hgrow _; have hk7 := row_keep HV1.out HV2.out hgrow; obtain ⟨z_0, zf_0, zl_0⟩ := blk1 hk7; obtain ⟨q', c', z', hv'⟩ : ∃ q' c' z', v' = .slice q' z' c' := (by rcases hown'.2 with ⟨rfl, h0⟩ | ⟨g, cap, cur, rfl, _⟩; (exfalso; omega); exact ⟨_, _, _, rfl⟩)))
    obtain ⟨hIN, hKO⟩ := row_put (x := x) HI.out HV1.out HV2.out hgrow hown' (Nat.le_refl _)
    rw [hv'] at hIN hKO
    exact ⟨hKO.from _, fun _ => hIN.it HT.out, hIN⟩
end Go.Proofs.YthgecojbggoniaaGreatDoor
