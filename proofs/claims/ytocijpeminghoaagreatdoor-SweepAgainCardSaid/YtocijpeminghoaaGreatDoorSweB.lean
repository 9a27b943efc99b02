/- Layer 15: Sweep, the walk. -/
import Derived.Test.YtocijpeminghoaaGreatDoorSweA
import Derived.RangeFuncWrites
import Derived.Laws.EntriesVeiled
namespace Go.Proofs.YtocijpeminghoaaGreatDoor
open Go.RowKit Go.Shelf
set_option maxRecDepth 100000
set_option linter.unusedVariables false
set_option linter.unusedSimpArgs false
set_option linter.unnecessarySimpa false
attribute [local go_sem] Oper.semAt_some

def vK : ByteArray := ⟨#[118]⟩
def wK : ByteArray := ⟨#[119]⟩
theorem opEl : ElTy 31 65 3 (.agg #[.string ⟨#[]⟩, .string ⟨#[]⟩, .bool false]) 40 := ⟨Tryz.underlying31, by kernel_rfl, rfl, by decide⟩
theorem opEnc : Enc oppC 3 := ⟨fun _ => rfl, fun a u hu => by
  simp only [oppC, List.mem_cons, List.mem_nil_iff, or_false] at hu
  rcases hu with rfl | rfl | rfl <;> rfl⟩
def swOneR (lo hi : ByteArray) (a b : Int) (r : List UInt8 × Int × Int × Int) (u : List UInt8 × Bool × Int) (st : SwSt) (x : Rw) : SwSt :=
  if (!(r.2.2.2 == 0) || !(u.2.2 == 0) || klt ⟨r.1.toArray⟩ lo || !klt ⟨r.1.toArray⟩ hi || lessS a b r.2.1 r.2.2.1) = true then st else
    ⟨⟨r.1.toArray⟩, true, if (!(!st.any || !((⟨r.1.toArray⟩ : ByteArray).toList == st.last.toList)) || !u.2.1) = true then st.out ++ [⟨x.1, ⟨#[]⟩, true⟩] else st.out⟩
/-- between two rounds -/
structure SwI (tb b4 b5 b8 b9 b10 b11 c1 c2 c3 : Nat) (lo hi : ByteArray) (a b : Int) (w0 : World) (pr : List RwB) (W : World) : Prop where
  g : Gr w0 W
  s4 : W.heap[b4]? = some (.cells #[.string lo, .string hi] 36)
  s5 : W.heap[b5]? = some (.cells #[.int .i64 a, .int .i64 b] 24)
  s8 : W.heap[b8]? = some (.cells #[.string (swFold lo hi a b (pr.map (·.1))).last] 9)
  s9 : W.heap[b9]? = some (.cells #[.bool (swFold lo hi a b (pr.map (·.1))).any] 4)
  s10 : W.heap[b10]? = some (.cells #[.func (.func 26) #[] #[.pointer (some ⟨b9, 0, none⟩), .pointer (some ⟨b8, 0, none⟩)]] 67)
  out : ∃ v, W.heap[b11]? = some (.cells #[v] 31) ∧ OwnG 65 3 oppC W w0.heap.size v (swFold lo hi a b (pr.map (·.1))).out
  t1 : W.heap[c1]? = some (.cells #[.pointer (some ⟨tb, 0, none⟩)] 27)
  t2 : W.heap[c2]? = some (.cells #[.string vK] 9)
  t3 : W.heap[c3]? = some (.cells #[.string wK] 9)
theorem grown_cells {W W' : World} {row : Option Nat} (hg : W.grownBy W' row) (hr : ∀ r, row = some r → ∃ o : Obj, W.heap[r]? = some o ∧ o.isCells = false) {b : Nat} {cs : Array Value} {t : TypeId} {fz : Nat × Nat} (h : W.heap[b]? = some (.cells cs t fz)) : W'.heap[b]? = some (.cells cs t fz) := by
  rw [hg.block b (Array.getElem?_eq_some_iff.1 h).1 (fun e => ?_), h]
  obtain ⟨o, h1, h2⟩ := hr b e.symm
  rw [h] at h1
  cases h1
  cases h2
theorem SwI.own {tb b4 b5 b8 b9 b10 b11 c1 c2 c3 : Nat} {lo hi : ByteArray} {a b : Int} {w0 : World} {B : Nat} (hB : w0.heap.size ≤ B) : OwnFrom B (SwI tb b4 b5 b8 b9 b10 b11 c1 c2 c3 lo hi a b w0) := by
  intro pre W W' row h hg hr
  have hr2 : ∀ r, row = some r → ∃ o : Obj, W.heap[r]? = some o ∧ o.isCells = false := fun r e => (hr r e).2
  have hc := fun {b : Nat} {cs : Array Value} {t : TypeId} {fz : Nat × Nat} (hh : W.heap[b]? = some (.cells cs t fz)) => grown_cells hg hr2 hh
  refine ⟨h.g.grown hg (fun k e => Nat.le_trans hB (hr k e).1), hc h.s4, hc h.s5, hc h.s8, hc h.s9, hc h.s10, ?_, hc h.t1, hc h.t2, hc h.t3⟩
  obtain ⟨v, h1, h2⟩ := h.out
  exact ⟨v, hc h1, h2.kept (fun g c f hh => hc hh)⟩
theorem SwI.it {tb b4 b5 b8 b9 b10 b11 c1 c2 c3 : Nat} {lo hi : ByteArray} {a b : Int} {w0 W : World} {pre : List RwB} {S : Nat → Prop} {R : List Rw} (h : SwI tb b4 b5 b8 b9 b10 b11 c1 c2 c3 lo hi a b w0 pre W) (ht : TabAt tb S R w0) : ItAt tb c1 c2 c3 S R vK wK W := ⟨ht.gr h.g, h.t1, h.t2, h.t3⟩
theorem TabAt.grown {tb : Nat} {S : Nat → Prop} {R : List Rw} {W W' : World} {row : Option Nat} (h : TabAt tb S R W) (hg : W.grownBy W' row) (hr : ∀ r, row = some r → ∃ o : Obj, W.heap[r]? = some o ∧ o.isCells = false) : TabAt tb S R W' := by
  obtain ⟨lb, H, bx, L, x, seed, h1, h2, h3, h4, h5, h6⟩ := h.ex
  refine ⟨lb, H, bx, L, x, seed, grown_cells hg hr h1, grown_cells hg hr h2, { h3 with list := grown_cells hg hr h3.list, chain := chainF_blk h3.chain (fun n hn o ho => ?_) }, h4, h5, h6⟩
  obtain ⟨cs, hcs⟩ := chain_blk h3.chain n hn
  rw [hcs] at ho
  cases ho
  exact grown_cells hg hr hcs
theorem ItAt.grown {tb b1 b2 b3 : Nat} {S : Nat → Prop} {R : List Rw} {lo hi : ByteArray} {W W' : World} {row : Option Nat} (h : ItAt tb b1 b2 b3 S R lo hi W) (hg : W.grownBy W' row) (hr : ∀ r, row = some r → ∃ o : Obj, W.heap[r]? = some o ∧ o.isCells = false) : ItAt tb b1 b2 b3 S R lo hi W' :=
  ⟨h.tab.grown hg hr, grown_cells hg hr h.t1, grown_cells hg hr h.t2, grown_cells hg hr h.t3⟩
theorem keeps_gr {B : Nat} {W W' : World} (hg : Gr W W') : KeepsFrom B W W' := (⟨hg.size, fun k o h _ => hg.blk h⟩ : KeepsOthers W W').from B
theorem SwI.next {tb b4 b5 b8 b9 b10 b11 c1 c2 c3 : Nat} {lo hi : ByteArray} {a b : Int} {w0 W W' : World} {pre : List RwB} {x : RwB} (h : SwI tb b4 b5 b8 b9 b10 b11 c1 c2 c3 lo hi a b w0 pre W) (hg : Gr W W') (hs : swFold lo hi a b ((pre ++ [x]).map (·.1)) = swFold lo hi a b (pre.map (·.1))) : SwI tb b4 b5 b8 b9 b10 b11 c1 c2 c3 lo hi a b w0 (pre ++ [x]) W' := by
  obtain ⟨v, h1, h2⟩ := h.out
  refine ⟨h.g.trans hg, hg.blk h.s4, hg.blk h.s5, ?_, ?_, hg.blk h.s10, ⟨v, hg.blk h1, ?_⟩, hg.blk h.t1, hg.blk h.t2, hg.blk h.t3⟩
  · rw [hs]; exact hg.blk h.s8
  · rw [hs]; exact hg.blk h.s9
  · rw [hs]; exact h2.gr hg
/-- a key is seen -/
theorem SwI.seen {tb b4 b5 b8 b9 b10 b11 c1 c2 c3 : Nat} {lo hi : ByteArray} {a b : Int} {w0 W W5 : World} {pre : List RwB} (h : SwI tb b4 b5 b8 b9 b10 b11 c1 c2 c3 lo hi a b w0 pre W) (hg : Gr W W5) (key : ByteArray) (h2 : c2 ≠ b8) (h3 : c3 ≠ b8) (h8 : w0.heap.size ≤ b8) (h9 : w0.heap.size ≤ b9) :
    ∀ W6, W6 = (W5.setCell ⟨b8, 0, none⟩ (.string key)).setCell ⟨b9, 0, none⟩ (.bool true) → Gr w0 W6 ∧ W6.heap[b4]? = some (.cells #[.string lo, .string hi] 36) ∧ W6.heap[b5]? = some (.cells #[.int .i64 a, .int .i64 b] 24) ∧
      W6.heap[b8]? = some (.cells #[.string key] 9) ∧ W6.heap[b9]? = some (.cells #[.bool true] 4) ∧
      W6.heap[b10]? = some (.cells #[.func (.func 26) #[] #[.pointer (some ⟨b9, 0, none⟩), .pointer (some ⟨b8, 0, none⟩)]] 67) ∧
      (∃ v, W6.heap[b11]? = some (.cells #[v] 31) ∧ OwnG 65 3 oppC W6 w0.heap.size v (swFold lo hi a b (pre.map (·.1))).out) ∧
      W6.heap[c1]? = some (.cells #[.pointer (some ⟨tb, 0, none⟩)] 27) ∧ W6.heap[c2]? = some (.cells #[.string vK] 9) ∧ W6.heap[c3]? = some (.cells #[.string wK] 9) ∧ KeepsOthers W W6 := by
  rintro W6 rfl
  have e8 := hg.blk h.s8
  have e9 := hg.blk h.s9
  have hoth : ∀ k o, k ≠ b8 → k ≠ b9 → W5.heap[k]? = some o → ((W5.setCell ⟨b8, 0, none⟩ (.string key)).setCell ⟨b9, 0, none⟩ (.bool true)).heap[k]? = some o := fun k o k8 k9 ho => heap_set_other (heap_set_other ho _ _ (fun e => k8 e.symm)) _ _ (fun e => k9 e.symm)
  have hty : ∀ (k : Nat) (cs : Array Value) (t : TypeId) (fz : Nat × Nat), W5.heap[k]? = some (.cells cs t fz) → t ≠ 9 → t ≠ 4 → ((W5.setCell ⟨b8, 0, none⟩ (.string key)).setCell ⟨b9, 0, none⟩ (.bool true)).heap[k]? = some (.cells cs t fz) := fun k cs t fz hk t1 t2 => hoth k _ (fun e => by rw [e, e8] at hk; cases hk; exact t1 rfl) (fun e => by rw [e, e9] at hk; cases hk; exact t2 rfl) hk
  have h89 : b8 ≠ b9 := fun e => by rw [e, e9] at e8; cases e8
  have hst : ∀ (k : Nat) (cs : Array Value) (fz : Nat × Nat), W5.heap[k]? = some (.cells cs 9 fz) → k ≠ b8 → ((W5.setCell ⟨b8, 0, none⟩ (.string key)).setCell ⟨b9, 0, none⟩ (.bool true)).heap[k]? = some (.cells cs 9 fz) := fun k cs fz hk k8 => hoth k _ k8 (fun e => by rw [e, e9] at hk; cases hk) hk
  obtain ⟨v, v1, v2⟩ := h.out
  refine ⟨(((h.g.trans hg).setCell (p := ⟨b8, 0, none⟩) h8 _).setCell (p := ⟨b9, 0, none⟩) h9 _), hty _ _ _ _ (hg.blk h.s4) (by decide) (by decide), hty _ _ _ _ (hg.blk h.s5) (by decide) (by decide), heap_set_other (heap_set e8 0 _) _ _ (fun e => h89 e.symm), heap_set (heap_set_other e9 _ _ h89) 0 _, hty _ _ _ _ (hg.blk h.s10) (by decide) (by decide),
    ⟨v, hty _ _ _ _ (hg.blk v1) (by decide) (by decide), (v2.gr hg).kept (fun g c f hh => hty _ _ _ _ hh (by decide) (by decide))⟩, hty _ _ _ _ (hg.blk h.t1) (by decide) (by decide), hst _ _ _ (hg.blk h.t2) h2, hst _ _ _ (hg.blk h.t3) h3, ?_⟩
  refine ⟨by simpa using hg.size, fun k o ho hc => hoth k o (fun e => ?_) (fun e => ?_) (hg.blk ho)⟩
  · rw [e, h.s8] at ho; cases ho; cases hc
  · rw [e, h.s9] at ho; cases ho; cases hc
/-- a change is put behind -/
theorem sw_put {tb b4 b5 b8 b9 b10 b11 c1 c2 c3 : Nat} {lo hi : ByteArray} {a b : Int} {w0 W6 w7 : World} {pr : List RwB} {key : ByteArray} {N : Obj} {v v' : Value} {L : List Opp} {o : Opp} (x1 : Gr w0 W6) (x2 : W6.heap[b4]? = some (.cells #[.string lo, .string hi] 36)) (x3 : W6.heap[b5]? = some (.cells #[.int .i64 a, .int .i64 b] 24))
    (x4 : W6.heap[b8]? = some (.cells #[.string key] 9)) (x5 : W6.heap[b9]? = some (.cells #[.bool true] 4)) (x6 : W6.heap[b10]? = some (.cells #[.func (.func 26) #[] #[.pointer (some ⟨b9, 0, none⟩), .pointer (some ⟨b8, 0, none⟩)]] 67))
    (v1 : W6.heap[b11]? = some (.cells #[v] 31)) (v2 : OwnG 65 3 oppC W6 w0.heap.size v L) (x8 : W6.heap[c1]? = some (.cells #[.pointer (some ⟨tb, 0, none⟩)] 27)) (x9 : W6.heap[c2]? = some (.cells #[.string vK] 9)) (x10 : W6.heap[c3]? = some (.cells #[.string wK] 9))
    (hgr : (W6.alloc N).grownBy w7 v.ownBlock) (hown : w7.ownsRow w0.heap.size 65 3 v' (L.length + 1) (L.flatMap oppC ++ oppC o)) (h11 : w0.heap.size ≤ b11) (hsw : swFold lo hi a b (pr.map (·.1)) = ⟨key, true, L ++ [o]⟩) :
    SwI tb b4 b5 b8 b9 b10 b11 c1 c2 c3 lo hi a b w0 pr (w7.setCell ⟨b11, 0, none⟩ v') ∧ KeepsOthers W6 (w7.setCell ⟨b11, 0, none⟩ v') := by
  have hrow : ∀ k, v.ownBlock = some k → ∃ cs, W6.heap[k]? = some (.cells cs 65) ∧ w0.heap.size ≤ k := by
    intro k hk
    rcases v2.2 with ⟨rfl, _⟩ | ⟨g, cap, cur, rfl, h1, h2, _⟩
    · cases hk
    · cases hk; exact ⟨cur, h2, h1⟩
  have ha : ∀ (k : Nat) (o' : Obj), (∀ cs, o' ≠ .cells cs 65) → W6.heap[k]? = some o' → w7.heap[k]? = some o' := by
    intro k o' hne hk
    have hk2 : (W6.alloc N).heap[k]? = some o' := heap_alloc1 hk
    rw [hgr.block k (Array.getElem?_eq_some_iff.1 hk2).1 (fun e => ?_), hk2]
    obtain ⟨cs, h1, _⟩ := hrow k e.symm
    rw [hk] at h1
    cases h1
    exact hne _ rfl
  have hb : ∀ (k : Nat) (cs : Array Value) (t : TypeId), t ≠ 65 → t ≠ 31 → W6.heap[k]? = some (.cells cs t) → (w7.setCell ⟨b11, 0, none⟩ v').heap[k]? = some (.cells cs t) := by
    intro k cs t h1 h2 hk
    refine heap_set_other (ha k _ (fun cs' e => by cases e; exact h1 rfl) hk) _ _ (fun e => ?_)
    simp only at e
    rw [← e, v1] at hk
    cases hk
    exact h2 rfl
  have hv7 := ha _ _ (fun cs' e => by cases e) v1
  refine ⟨⟨((x1.alloc N).grown hgr (fun k e => (hrow k e).elim fun _ h => h.2)).setCell (p := ⟨b11, 0, none⟩) h11 _, hb _ _ _ (by decide) (by decide) x2, hb _ _ _ (by decide) (by decide) x3, by rw [hsw]; exact hb _ _ _ (by decide) (by decide) x4, by rw [hsw]; exact hb _ _ _ (by decide) (by decide) x5, hb _ _ _ (by decide) (by decide) x6, ⟨v', heap_set hv7 0 _, ?_⟩, hb _ _ _ (by decide) (by decide) x8, hb _ _ _ (by decide) (by decide) x9, hb _ _ _ (by decide) (by decide) x10⟩, ⟨?_, fun k o' ho hc => ?_⟩⟩
  · have h1 : OwnG 65 3 oppC w7 w0.heap.size v' (L ++ [o]) := by
      unfold OwnG
      rw [List.flatMap_append, List.length_append]
      simpa using hown
    rw [hsw]
    exact h1.kept (fun g c f hh => heap_set_other hh _ _ (fun e => by simp only at e; rw [← e, hv7] at hh; cases hh))
  · have := hgr.size
    simp at this ⊢
    omega
  · refine heap_set_other (ha k o' (fun cs e => by rw [e] at hc; cases hc) ho) _ _ (fun e => ?_)
    simp only at e
    rw [← e, v1] at ho
    cases ho
    cases hc
theorem sw_keep {b11 : Nat} {w0 W6 w7 : World} {N : Obj} {v : Value} {L : List Opp} (v1 : W6.heap[b11]? = some (.cells #[v] 31)) (v2 : OwnG 65 3 oppC W6 w0.heap.size v L) (hgr : (W6.alloc N).grownBy w7 v.ownBlock) : w7.heap[b11]? = some (.cells #[v] 31) := by
  have hk2 : (W6.alloc N).heap[b11]? = some (.cells #[v] 31) := heap_alloc1 v1
  rw [hgr.block b11 (Array.getElem?_eq_some_iff.1 hk2).1 (fun e => ?_), hk2]
  rcases v2.2 with ⟨rfl, _⟩ | ⟨g, cap, cur, rfl, h1, h2, _⟩
  · cases e
  · cases e
    rw [v1] at h2
    cases h2
theorem one_op (W : World) (k : ByteArray) : ∀ (j : Nat) (u : Value), (oppC ⟨k, ⟨#[]⟩, true⟩)[j]? = some u → (W.alloc (.cells #[.string k, .string ⟨#[]⟩, .bool true] 65)).cell? ((⟨W.heap.size, 0, none⟩ : Addr).add j) = some u := by
  intro j u hj
  have hb := heap_alloc_new W (Obj.cells #[.string k, .string ⟨#[]⟩, .bool true] 65)
  rw [Addr.add_lit, Nat.zero_add]
  exact cell_of hb (by simpa [oppC] using hj)
set_option maxHeartbeats 8000000 in
theorem sweep_ok {tb : Nat} {S : Nat → Prop} {R : List Rw} {w : World} (h : TabAt tb S R w) (hsz : ∀ x ∈ R, x.1.size < 140737488355328 ∧ x.2.size ≤ 140737488351232) (hR : R.length ≤ 1000000000) (lo hi : ByteArray) (hlo : lo.size ≤ 33) (hhi : hi.size ≤ 33) (hlt : klt lo hi = true) (a b : Int) (hst : stampOk a b = true) :
    Calls Tryz.prog 7 #[.pointer (some ⟨tb, 0, none⟩), .agg #[.string lo, .string hi], .agg #[.int .i64 a, .int .i64 b]] w fun e w' =>
      ∃ v, e = .returned (.tuple #[v, .int .i64 0]) ∧ OwnG 65 3 oppC w' w.heap.size v (swFold lo hi a b (betweenR vK wK R)).out ∧ Gr w w' := by
  obtain ⟨i0, hi0, hz0, hz1, hz2⟩ := info_parts opEl.info
  have HT := Lib.hid h
  have HSz := Lib.hid hsz
  have hC := stampCheck a b
  rw [hst, if_pos rfl] at hC
  have HC := Lib.hid hC
  have HR := Lib.hid hR
  clear h hsz hC hst hR
  refine (callsIn_wide (n := 3)).1 ?_
  refine callsIn_of_wp_marks Tryz.func7 rfl trivial ?_ rfl
  simp only [Tryz.ntmps7, List.size_toArray, List.length_cons, List.length_nil, Nat.reduceAdd, Nat.reduceSub, Array.replicate_succ, Array.replicate_zero, List.push_toArray, List.append_toArray, List.nil_append, List.cons_append]
  gi_wp2_with (first | (refine ⟨trivial, ?_⟩; gi_at_call 25; refine (callsIn_wide.2 (HC.out _)).mono ?_; rintro e w1 ⟨rfl, hg1⟩; have HG1 := Lib.hid hg1; clear hg1) | (refine ⟨trivial, ?_⟩; gi_at_call 27; refine (callsIn_wide.2 (all_tab tb vK wK _)).mono ?_; rintro e w2 ⟨rfl, hc1, hc2, hc3, hcs, hg2⟩))
  have e10 := heap_alloc_new ((w1.alloc (.cells #[.string ⟨#[]⟩] 9)).alloc (.cells #[.bool false] 4)) (.cells #[.nilFunc] 67)
  simp only [World.size_alloc] at e10
  obtain ⟨f_0, f_1, f_2⟩ := blk1 e10
  clear e10 f_2
  gi_wp2_with (first | (refine ⟨trivial, ?_⟩; gi_at_call 27; refine (callsIn_wide.2 (all_tab tb vK wK _)).mono ?_; rintro e w2 ⟨rfl, hc1, hc2, hc3, hcs, hg2⟩))
  obtain ⟨W3, hW3⟩ : ∃ W3, W3 = ((((w1.alloc (.cells #[.string ⟨#[]⟩] 9)).alloc (.cells #[.bool false] 4)).alloc (.cells #[.func (.func 26) #[] #[.pointer (some ⟨w1.heap.size + 1, 0, none⟩), .pointer (some ⟨w1.heap.size, 0, none⟩)]] 67)).alloc (.cells #[.slice none 0 0] 31)) := ⟨_, rfl⟩
  rw [← hW3] at hc1 hc2 hc3 hcs hg2
  have hs3 : W3.heap.size = w1.heap.size + 1 + 1 + 1 + 1 := by rw [hW3]; simp
  rw [hs3] at hc1 hc2 hc3 hcs
  have g3 : Gr w1 W3 := by rw [hW3]; exact ((((Gr.refl _).alloc _).alloc _).alloc _).alloc _
  have p8 : W3.heap[w1.heap.size]? = some (.cells #[.string ⟨#[]⟩] 9) := by rw [hW3]; exact heap_alloc1 (heap_alloc1 (heap_alloc1 (heap_alloc_new _ _)))
  have p9 : W3.heap[w1.heap.size + 1]? = some (.cells #[.bool false] 4) := by rw [hW3]; exact heap_alloc1 (heap_alloc1 (heap_newn (by simp)))
  have p10 : W3.heap[w1.heap.size + 1 + 1]? = some (.cells #[.func (.func 26) #[] #[.pointer (some ⟨w1.heap.size + 1, 0, none⟩), .pointer (some ⟨w1.heap.size, 0, none⟩)]] 67) := by rw [hW3]; exact heap_alloc1 (heap_newn (by simp))
  have p11 : W3.heap[w1.heap.size + 1 + 1 + 1]? = some (.cells #[.slice none 0 0] 31) := by rw [hW3]; exact heap_newn (by simp)
  have g1 := HG1.out
  have g0 : Gr w w1 := (((Gr.refl w).alloc _).alloc _).trans g1
  have p4 : w1.heap[w.heap.size]? = some (.cells #[.string lo, .string hi] 36) := g1.blk (heap_alloc1 (heap_newn rfl))
  have p5 : w1.heap[w.heap.size + 1]? = some (.cells #[.int .i64 a, .int .i64 b] 24) := g1.blk (heap_newn (by simp))
  have hI0 : SwI tb w.heap.size (w.heap.size + 1) w1.heap.size (w1.heap.size + 1) (w1.heap.size + 1 + 1) (w1.heap.size + 1 + 1 + 1) (w1.heap.size + 1 + 1 + 1 + 1) (w1.heap.size + 1 + 1 + 1 + 1 + 1) (w1.heap.size + 1 + 1 + 1 + 1 + 2) lo hi a b w [] w2 :=
    ⟨g0.trans (g3.trans hg2), hg2.blk (g3.blk p4), hg2.blk (g3.blk p5), hg2.blk p8, hg2.blk p9, hg2.blk p10, ⟨_, hg2.blk p11, OwnG.nil _ _⟩, hc1, hc2, hc3⟩
  have HI0 := Lib.hid hI0
  have HZ : Hid (w.heap.size ≤ w2.heap.size) := Lib.hid hI0.g.size
  have HLe : Hid (w1.heap.size + 4 ≤ w2.heap.size) := Lib.hid (by rw [hcs]; omega)
  have HW1 := Lib.hid g0.size
  clear hc1 hc2 hc3 hcs hg2 g3 p8 p9 p10 p11 p4 p5 hI0 hW3 hs3 g0 g1 f_0 f_1
  have hbw : (betweenR vK wK R).length ≤ 1000000000 := by
    have h1 : (betweenR vK wK R).length ≤ R.length := by
      unfold betweenR untilR aboveR
      exact Nat.le_trans (List.takeWhile_sublist _).length_le (List.dropWhile_sublist _).length_le
    exact Nat.le_trans h1 HR.out
  have HBW := Lib.hid hbw
  clear hbw
  refine wpIn_rangeFunc_ownG rfl (by decide) (gf := 51) (lb := #[.pointer (some ⟨w1.heap.size + 1 + 1 + 1 + 1, 0, none⟩), .pointer (some ⟨w1.heap.size + 1 + 1 + 1 + 1 + 1, 0, none⟩), .pointer (some ⟨w1.heap.size + 1 + 1 + 1 + 1 + 2, 0, none⟩)]) rfl trivial (enters_of Tryz.func51 (by kernel_rfl) rfl)
    (all_stops 2 (by decide) (fun W W' => ItAt tb (w1.heap.size + 1 + 1 + 1 + 1) (w1.heap.size + 1 + 1 + 1 + 1 + 1) (w1.heap.size + 1 + 1 + 1 + 1 + 2) S R vK wK W → ItAt tb (w1.heap.size + 1 + 1 + 1 + 1) (w1.heap.size + 1 + 1 + 1 + 1 + 1) (w1.heap.size + 1 + 1 + 1 + 1 + 2) S R vK wK W') (fun W W' h k => k h) HSz.out w2 (HI0.out.it HT.out))
    (fun h k x => k (h x)) (fun W l o o' _ ho hc hw hit => hit.grown (grownBy_putObj' W l o') (fun r e => by cases e; exact ⟨o, ho, hc⟩)) (Below.refl _ _) (fun _ => rfl)
    (SwI tb w.heap.size (w.heap.size + 1) w1.heap.size (w1.heap.size + 1) (w1.heap.size + 1 + 1) (w1.heap.size + 1 + 1 + 1) (w1.heap.size + 1 + 1 + 1 + 1) (w1.heap.size + 1 + 1 + 1 + 1 + 1) (w1.heap.size + 1 + 1 + 1 + 1 + 2) lo hi a b w) (fun _ _ _ => False) (SwI.own HZ.out) (fun _ _ _ _ _ hs _ _ => hs) HI0.out ?a1 ?assign ?body ?done ?stop
  case assign =>
    intro l x W K hK
    simp only [encR, List.zip_toArray, List.zip_cons_cons, List.zip_nil_left, List.zip_nil_right, ← Array.foldl_toList, List.foldl_cons, List.foldl_nil, List.setIfInBounds_toArray, List.set_cons_zero, List.set_cons_succ]
    gi_wp2
    exact hK
  case stop =>
    rintro D c pre W _ _ h _
    exact h.elim
  case done =>
    rintro D ys W hD hys hI hK
    obtain ⟨v, hv, hown⟩ := hI.out
    rw [hys] at hown
    obtain ⟨q, c, hvq⟩ := hown.slice
    have hg := hI.g
    obtain ⟨k_0, g_0, l_0⟩ := blk1 hv
    clear hI HI0 hv
    gi_wp2
    refine ⟨by simp, .inl ⟨_, _, rfl, run_takeDeferred hK, ?_⟩⟩
    refine ⟨_, results_tmp2 rfl _ _ _, v, ?_, ownsRow_putObj hown _ hK rfl, hg.grown (grownBy_putObj' W D _) (fun k e => by cases e; exact Nat.le_trans HZ.out hD)⟩
    · rw [hvq]; rfl
  case body =>
    rintro l pre x W hI hlt2
    have HI := Lib.hid hI
    have HRV := Lib.hid (fun w => readVersion_any x.1.1 (by have := x.2.1; omega) w)
    have HTV := Lib.hid (fun w => takeVersion_any x.1.2 x.2.2 w)
    have HSw : Hid (swFold lo hi a b ((pre ++ [x]).map (·.1)) = swOneR lo hi a b (readVersionR x.1.1.data.toList) (takeVerR x.1.2.data.toList) (swFold lo hi a b (pre.map (·.1))) x.1) := Lib.hid (by rw [List.map_append, List.map_cons, List.map_nil, swFold_snoc]; rfl)
    generalize readVersionR x.1.1.data.toList = r at *
    generalize takeVerR x.1.2.data.toList = u at *
    obtain ⟨rk, ra, rb, re⟩ := r
    obtain ⟨uv, ub, ue⟩ := u
    simp only at HRV HTV
    obtain ⟨i_0, if_0, il_0⟩ := blk1 hI.s10
    obtain ⟨j_0, j_1, jf_0, jf_1, jl_0⟩ := blk2 hI.s4
    obtain ⟨m_0, m_1, mf_0, mf_1, ml_0⟩ := blk2 hI.s5
    clear HI0 hI
    by_cases hre : re = 0
    · subst hre
      by_cases hue : ue = 0
      · subst hue
        have hrk : (⟨rk.toArray⟩ : ByteArray).toList = rk := by rw [ByteArray.toList_eq]
        cases k1 : Op.bytesLess rk lo.toList with
        | true =>
          have HSk : Hid (swFold lo hi a b ((pre ++ [x]).map (·.1)) = swFold lo hi a b (pre.map (·.1))) := Lib.hid (by rw [HSw.out]; simp [swOneR, klt, hrk, k1])
          gi_wp2_with (first
            | (refine ⟨trivial, ?_⟩; gi_at_call 13; refine (CallsIn.inRound l (callsIn_wide.2 (HRV.out _))).mono ?_; rintro e w3 ⟨rfl, hg3⟩)
            | (refine ⟨trivial, ?_⟩; gi_at_call 14; refine (CallsIn.inRound l (callsIn_wide.2 (HTV.out _))).mono ?_; rintro e w4 ⟨rfl, hg4⟩; have j_2 := (hg3.trans (((Gr.refl w3).alloc _).trans hg4)).cell' j_0))
          refine ⟨trivial, ?_⟩
          gi_wp2
          have hgW := hg3.trans (((Gr.refl w3).alloc (.cells #[.int .i64 ra, .int .i64 rb] 24)).trans hg4)
          exact ⟨keeps_gr hgW, fun hit => hit.gr hgW, HI.out.next hgW HSk.out⟩
        | false =>
          cases k2 : Op.bytesLess rk hi.toList with
          | false =>
            have HSk : Hid (swFold lo hi a b ((pre ++ [x]).map (·.1)) = swFold lo hi a b (pre.map (·.1))) := Lib.hid (by rw [HSw.out]; simp [swOneR, klt, hrk, k2])
            gi_wp2_with (first
              | (refine ⟨trivial, ?_⟩; gi_at_call 13; refine (CallsIn.inRound l (callsIn_wide.2 (HRV.out _))).mono ?_; rintro e w3 ⟨rfl, hg3⟩)
              | (refine ⟨trivial, ?_⟩; gi_at_call 14; refine (CallsIn.inRound l (callsIn_wide.2 (HTV.out _))).mono ?_; rintro e w4 ⟨rfl, hg4⟩; have j_2 := (hg3.trans (((Gr.refl w3).alloc _).trans hg4)).cell' j_0; have j_3 := (hg3.trans (((Gr.refl w3).alloc _).trans hg4)).cell' j_1))
            refine ⟨trivial, ?_⟩
            gi_wp2
            have hgW := hg3.trans (((Gr.refl w3).alloc (.cells #[.int .i64 ra, .int .i64 rb] 24)).trans hg4)
            exact ⟨keeps_gr hgW, fun hit => hit.gr hgW, HI.out.next hgW HSk.out⟩
          | true =>
            have HLs := Lib.hid (fun w => less_any a b ra rb w)
            cases k3 : lessS a b ra rb with
            | true =>
              rw [k3] at HLs
              have HSk : Hid (swFold lo hi a b ((pre ++ [x]).map (·.1)) = swFold lo hi a b (pre.map (·.1))) := Lib.hid (by rw [HSw.out]; simp [swOneR, klt, hrk, k1, k2, k3])
              clear k3
              gi_wp2_with (first
                | (refine ⟨trivial, ?_⟩; gi_at_call 13; refine (CallsIn.inRound l (callsIn_wide.2 (HRV.out _))).mono ?_; rintro e w3 ⟨rfl, hg3⟩)
                | (refine ⟨trivial, ?_⟩; gi_at_call 14; refine (CallsIn.inRound l (callsIn_wide.2 (HTV.out _))).mono ?_; rintro e w4 ⟨rfl, hg4⟩; have hgW := hg3.trans (((Gr.refl w3).alloc (.cells #[.int .i64 ra, .int .i64 rb] 24)).trans hg4); have j_2 := hgW.cell' j_0; have j_3 := hgW.cell' j_1; have m_2 := hgW.cell' m_0; have m_3 := hgW.cell' m_1; obtain ⟨n_0, n_1, nf_0, nf_1, nl_0⟩ := blk2 (hg4.blk (heap_alloc_new w3 (.cells #[.int .i64 ra, .int .i64 rb] 24))))
                | (refine ⟨trivial, ?_⟩; gi_at_call 9; refine (CallsIn.inRound l (callsIn_wide.2 (HLs.out _))).mono ?_; rintro e w5 ⟨rfl, hg5⟩))
              exact ⟨keeps_gr (hgW.trans hg5), fun hit => hit.gr (hgW.trans hg5), HI.out.next (hgW.trans hg5) HSk.out⟩
            | false =>
              rw [k3] at HLs
              have HSn : Hid (swFold lo hi a b ((pre ++ [x]).map (·.1)) = ⟨⟨rk.toArray⟩, true, if (!(!(swFold lo hi a b (pre.map (·.1))).any || !(rk == (swFold lo hi a b (pre.map (·.1))).last.toList)) || !ub) = true then (swFold lo hi a b (pre.map (·.1))).out ++ [⟨x.1.1, ⟨#[]⟩, true⟩] else (swFold lo hi a b (pre.map (·.1))).out⟩) := Lib.hid (by rw [HSw.out]; simp [swOneR, klt, hrk, k1, k2, k3])
              have H1 := Lib.hid (fun (w5 : World) (hg : Gr W w5) => sw1_any (b8 := w1.heap.size) (b9 := w1.heap.size + 1) ⟨rk.toArray⟩ (swFold lo hi a b (pre.map (·.1))).last (swFold lo hi a b (pre.map (·.1))).any (hg.blk HI.out.s8) (hg.blk HI.out.s9))
              simp only [hrk] at H1
              clear k3
              cases hf : (!(swFold lo hi a b (pre.map (·.1))).any || !(rk == (swFold lo hi a b (pre.map (·.1))).last.toList)) with
              | true =>
                rw [hf] at H1 HSn
                cases ub with
                | true =>
                  gi_wp2_with (first
                    | (refine ⟨trivial, ?_⟩; gi_at_call 13; refine (CallsIn.inRound l (callsIn_wide.2 (HRV.out _))).mono ?_; rintro e w3 ⟨rfl, hg3⟩)
                    | (refine ⟨trivial, ?_⟩; gi_at_call 14; refine (CallsIn.inRound l (callsIn_wide.2 (HTV.out _))).mono ?_; rintro e w4 ⟨rfl, hg4⟩; have hgW := hg3.trans (((Gr.refl w3).alloc (.cells #[.int .i64 ra, .int .i64 rb] 24)).trans hg4); have j_2 := hgW.cell' j_0; have j_3 := hgW.cell' j_1; have m_2 := hgW.cell' m_0; have m_3 := hgW.cell' m_1; obtain ⟨n_0, n_1, nf_0, nf_1, nl_0⟩ := blk2 (hg4.blk (heap_alloc_new w3 (.cells #[.int .i64 ra, .int .i64 rb] 24))))
                    | (refine ⟨trivial, ?_⟩; gi_at_call 9; refine (CallsIn.inRound l (callsIn_wide.2 (HLs.out _))).mono ?_; rintro e w5 ⟨rfl, hg5⟩; have i_2 := (hgW.trans hg5).cell' i_0)
                    | (refine ⟨trivial, ?_⟩; gi_at_call 26; refine (CallsIn.inRound l (callsIn_wide.2 (H1.out w5 (hgW.trans hg5)))).mono ?_; rintro e w6 ⟨rfl, rfl⟩))
                  obtain ⟨x1, x2, x3, x4, x5, x6, x7, x8, x9, x10, x11⟩ := HI.out.seen (hgW.trans hg5) ⟨rk.toArray⟩ (by omega) (by omega) HW1.out (Nat.le_trans HW1.out (by omega)) _ rfl
                  have hIN : SwI tb w.heap.size (w.heap.size + 1) w1.heap.size (w1.heap.size + 1) (w1.heap.size + 1 + 1) (w1.heap.size + 1 + 1 + 1) (w1.heap.size + 1 + 1 + 1 + 1) (w1.heap.size + 1 + 1 + 1 + 1 + 1) (w1.heap.size + 1 + 1 + 1 + 1 + 2) lo hi a b w (pre ++ [x]) ((w5.setCell ⟨w1.heap.size, 0, none⟩ (.string ⟨rk.toArray⟩)).setCell ⟨w1.heap.size + 1, 0, none⟩ (.bool true)) := ⟨x1, x2, x3, by rw [HSn.out]; exact x4, by rw [HSn.out]; exact x5, x6, by rw [HSn.out]; simpa using x7, x8, x9, x10⟩
                  exact ⟨x11.from _, fun _ => hIN.it HT.out, hIN⟩
                | false =>
                  have hbnd := swOut_len lo hi a b (pre.map (·.1))
                  have hbnd2 := HBW.out
                  rw [List.length_map] at hbnd
                  have hbnd3 : (swFold lo hi a b (pre.map (·.1))).out.length + 1 ≤ 1000000001 := by omega
                  have HB3 := Lib.hid hbnd3
                  clear hbnd hbnd2 hbnd3
                  gi_wp2_with (first
                    | (refine ⟨trivial, ?_⟩; gi_at_call 13; refine (CallsIn.inRound l (callsIn_wide.2 (HRV.out _))).mono ?_; rintro e w3 ⟨rfl, hg3⟩)
                    | (refine ⟨trivial, ?_⟩; gi_at_call 14; refine (CallsIn.inRound l (callsIn_wide.2 (HTV.out _))).mono ?_; rintro e w4 ⟨rfl, hg4⟩; have hgW := hg3.trans (((Gr.refl w3).alloc (.cells #[.int .i64 ra, .int .i64 rb] 24)).trans hg4); have j_2 := hgW.cell' j_0; have j_3 := hgW.cell' j_1; have m_2 := hgW.cell' m_0; have m_3 := hgW.cell' m_1; obtain ⟨n_0, n_1, nf_0, nf_1, nl_0⟩ := blk2 (hg4.blk (heap_alloc_new w3 (.cells #[.int .i64 ra, .int .i64 rb] 24))))
                    | (refine ⟨trivial, ?_⟩; gi_at_call 9; refine (CallsIn.inRound l (callsIn_wide.2 (HLs.out _))).mono ?_; rintro e w5 ⟨rfl, hg5⟩; have i_2 := (hgW.trans hg5).cell' i_0)
                    | (refine ⟨trivial, ?_⟩; gi_at_call 26; refine (CallsIn.inRound l (callsIn_wide.2 (H1.out w5 (hgW.trans hg5)))).mono ?_; rintro e w6 ⟨rfl, hw6⟩; obtain ⟨x1, x2, x3, x4, x5, x6, ⟨v, v1, v2⟩, x8, x9, x10, x11⟩ := HI.out.seen (hgW.trans hg5) ⟨rk.toArray⟩ (by omega) (by omega) HW1.out (Nat.le_trans HW1.out (by omega)) w6 hw6; clear hw6; obtain ⟨vq, vc, rfl⟩ := v2.slice; obtain ⟨y_0, yf_0, yl_0⟩ := blk1 v1)
                    | (gi_at_builtin; refine wpListIn_append_own _ rfl _ _ 31 rfl w.heap.size 65 i0 _ 3 40 Tryz.underlying31 hi0 hz0 hz1 hz2 rfl (by decide) _ _ _ rfl (OwnG.gr ((Gr.refl _).alloc _) v2) ⟨w6.heap.size, 0, none⟩ 1 1 (oppC ⟨x.1.1, ⟨#[]⟩, true⟩) rfl rfl (one_op w6 x.1.1) (opEnc.one _) (by have := HB3.out; unfold maxLen; omega) (by have := HB3.out; omega) (by have := x1.size; simp; omega) ?_; intro v' w7 hown' hgrow _; have hk7 := sw_keep v1 v2 hgrow; obtain ⟨z_0, zf_0, zl_0⟩ := blk1 hk7; obtain ⟨q', c', hv'⟩ : ∃ q' c', v' = .slice q' ((swFold lo hi a b (pre.map (·.1))).out.length + 1) c' := (by rcases hown'.2 with ⟨rfl, h0⟩ | ⟨g, cap, cur, rfl, _⟩; (exfalso; omega); exact ⟨_, _, rfl⟩)))
                  obtain ⟨hIN, hKO⟩ := sw_put (pr := pre ++ [x]) (o := ⟨x.1.1, ⟨#[]⟩, true⟩) (key := ⟨rk.toArray⟩) x1 x2 x3 x4 x5 x6 v1 v2 x8 x9 x10 hgrow hown' (Nat.le_trans HW1.out (by omega)) (by rw [HSn.out]; simp)
                  rw [hv'] at hIN hKO
                  exact ⟨(x11.trans hKO).from _, fun _ => hIN.it HT.out, hIN⟩
              | false =>
                rw [hf] at H1 HSn
                have hbnd := swOut_len lo hi a b (pre.map (·.1))
                have hbnd2 := HBW.out
                rw [List.length_map] at hbnd
                have hbnd3 : (swFold lo hi a b (pre.map (·.1))).out.length + 1 ≤ 1000000001 := by omega
                have HB3 := Lib.hid hbnd3
                clear hbnd hbnd2 hbnd3
                gi_wp2_with (first
                  | (refine ⟨trivial, ?_⟩; gi_at_call 13; refine (CallsIn.inRound l (callsIn_wide.2 (HRV.out _))).mono ?_; rintro e w3 ⟨rfl, hg3⟩)
                  | (refine ⟨trivial, ?_⟩; gi_at_call 14; refine (CallsIn.inRound l (callsIn_wide.2 (HTV.out _))).mono ?_; rintro e w4 ⟨rfl, hg4⟩; have hgW := hg3.trans (((Gr.refl w3).alloc (.cells #[.int .i64 ra, .int .i64 rb] 24)).trans hg4); have j_2 := hgW.cell' j_0; have j_3 := hgW.cell' j_1; have m_2 := hgW.cell' m_0; have m_3 := hgW.cell' m_1; obtain ⟨n_0, n_1, nf_0, nf_1, nl_0⟩ := blk2 (hg4.blk (heap_alloc_new w3 (.cells #[.int .i64 ra, .int .i64 rb] 24))))
                  | (refine ⟨trivial, ?_⟩; gi_at_call 9; refine (CallsIn.inRound l (callsIn_wide.2 (HLs.out _))).mono ?_; rintro e w5 ⟨rfl, hg5⟩; have i_2 := (hgW.trans hg5).cell' i_0)
                  | (refine ⟨trivial, ?_⟩; gi_at_call 26; refine (CallsIn.inRound l (callsIn_wide.2 (H1.out w5 (hgW.trans hg5)))).mono ?_; rintro e w6 ⟨rfl, hw6⟩; obtain ⟨x1, x2, x3, x4, x5, x6, ⟨v, v1, v2⟩, x8, x9, x10, x11⟩ := HI.out.seen (hgW.trans hg5) ⟨rk.toArray⟩ (by omega) (by omega) HW1.out (Nat.le_trans HW1.out (by omega)) w6 hw6; clear hw6; obtain ⟨vq, vc, rfl⟩ := v2.slice; obtain ⟨y_0, yf_0, yl_0⟩ := blk1 v1)
                  | (gi_at_builtin; refine wpListIn_append_own _ rfl _ _ 31 rfl w.heap.size 65 i0 _ 3 40 Tryz.underlying31 hi0 hz0 hz1 hz2 rfl (by decide) _ _ _ rfl (OwnG.gr ((Gr.refl _).alloc _) v2) ⟨w6.heap.size, 0, none⟩ 1 1 (oppC ⟨x.1.1, ⟨#[]⟩, true⟩) rfl rfl (one_op w6 x.1.1) (opEnc.one _) (by have := HB3.out; unfold maxLen; omega) (by have := HB3.out; omega) (by have := x1.size; simp; omega) ?_; intro v' w7 hown' hgrow _; have hk7 := sw_keep v1 v2 hgrow; obtain ⟨z_0, zf_0, zl_0⟩ := blk1 hk7; obtain ⟨q', c', hv'⟩ : ∃ q' c', v' = .slice q' ((swFold lo hi a b (pre.map (·.1))).out.length + 1) c' := (by rcases hown'.2 with ⟨rfl, h0⟩ | ⟨g, cap, cur, rfl, _⟩; (exfalso; omega); exact ⟨_, _, rfl⟩)))
                obtain ⟨hIN, hKO⟩ := sw_put (pr := pre ++ [x]) (o := ⟨x.1.1, ⟨#[]⟩, true⟩) (key := ⟨rk.toArray⟩) x1 x2 x3 x4 x5 x6 v1 v2 x8 x9 x10 hgrow hown' (Nat.le_trans HW1.out (by omega)) (by rw [HSn.out]; simp)
                rw [hv'] at hIN hKO
                exact ⟨(x11.trans hKO).from _, fun _ => hIN.it HT.out, hIN⟩
      · have hz : (ue != 0) = true := by simpa using hue
        have HSk : Hid (swFold lo hi a b ((pre ++ [x]).map (·.1)) = swFold lo hi a b (pre.map (·.1))) := Lib.hid (by rw [HSw.out]; simp [swOneR, hue])
        gi_wp2_with (first
          | (refine ⟨trivial, ?_⟩; gi_at_call 13; refine (CallsIn.inRound l (callsIn_wide.2 (HRV.out _))).mono ?_; rintro e w3 ⟨rfl, hg3⟩)
          | (refine ⟨trivial, ?_⟩; gi_at_call 14; refine (CallsIn.inRound l (callsIn_wide.2 (HTV.out _))).mono ?_; rintro e w4 ⟨rfl, hg4⟩))
        refine ⟨trivial, ?_⟩
        gi_wp2
        have hgW := hg3.trans (((Gr.refl w3).alloc (.cells #[.int .i64 ra, .int .i64 rb] 24)).trans hg4)
        exact ⟨keeps_gr hgW, fun hit => hit.gr hgW, HI.out.next hgW HSk.out⟩
    · have hz : (re != 0) = true := by simpa using hre
      have HSk : Hid (swFold lo hi a b ((pre ++ [x]).map (·.1)) = swFold lo hi a b (pre.map (·.1))) := Lib.hid (by rw [HSw.out]; simp [swOneR, hre])
      gi_wp2_with (first
        | (refine ⟨trivial, ?_⟩; gi_at_call 13; refine (CallsIn.inRound l (callsIn_wide.2 (HRV.out _))).mono ?_; rintro e w3 ⟨rfl, hg3⟩)
        | (refine ⟨trivial, ?_⟩; gi_at_call 14; refine (CallsIn.inRound l (callsIn_wide.2 (HTV.out _))).mono ?_; rintro e w4 ⟨rfl, hg4⟩))
      refine ⟨trivial, ?_⟩
      gi_wp2
      have hgW := hg3.trans (((Gr.refl w3).alloc (.cells #[.int .i64 ra, .int .i64 rb] 24)).trans hg4)
      exact ⟨keeps_gr hgW, fun hit => hit.gr hgW, HI.out.next hgW HSk.out⟩
end Go.Proofs.YtocijpeminghoaaGreatDoor
