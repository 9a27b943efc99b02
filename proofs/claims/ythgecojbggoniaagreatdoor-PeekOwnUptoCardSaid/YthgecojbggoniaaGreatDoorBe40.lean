/- What the rows stand on, part 40: PekC. Printed by bundle.py out of my texts. -/
import Derived.Test.YthgecojbggoniaaGreatDoorBe22
import Derived.Test.YthgecojbggoniaaGreatDoorBe34
import Derived.Test.YthgecojbggoniaaGreatDoorBe37
import Derived.Test.YthgecojbggoniaaGreatDoorBe39
import Derived.Laws.Rows
import Derived.Laws.CopyOwn
namespace Go.Proofs.YthgecojbggoniaaGreatDoor
open Go.RowKit
set_option maxRecDepth 100000
set_option linter.unusedVariables false
set_option linter.unusedSimpArgs false
set_option linter.unnecessarySimpa false

/-- what is no change's block may turn -/
def noChg (cs : Array Value) : Prop := ∀ i, ∀ (z : Int) (s : ByteArray) (q : Bool), ¬ (cs[i]? = some (.int .i64 z) ∧ cs[i + 1]? = some (.string s) ∧ cs[i + 2]? = some (.bool q))
theorem chg_kept {w w' : World} {v : Value} {l : List Chg} {b : Nat} {cs : Array Value} {t : TypeId} {fz : Nat × Nat} (h : RdC w v l) (hs : w.heap.size ≤ w'.heap.size) (hb : ∀ k o, k ≠ b → w.heap[k]? = some o → w'.heap[k]? = some o) (hc : w.heap[b]? = some (.cells cs t fz)) (hn : noChg cs) : RdC w' v l := by
  rcases h with h | ⟨blk, off, cap, rfl, h1, h2, h3, h4, h5⟩
  · exact .inl h
  · have hne : blk ≠ b := by
      rintro rfl
      obtain ⟨ds, d1, d2, d3⟩ := h5 0 (by omega)
      unfold RC chgCells at d3
      subst d3
      have c0 := d2 0 (by simp)
      have c1 := d2 1 (by simp)
      have c2 := d2 2 (by simp)
      simp only [World.cell?, hc] at c0 c1 c2
      simp at c0 c1 c2
      exact hn off _ _ _ ⟨c0, c1, c2⟩
    refine .inr ⟨blk, off, cap, rfl, h1, h2, h3, Nat.lt_of_lt_of_le h4 hs, fun i hi => ?_⟩
    obtain ⟨ds, d1, d2, d3⟩ := h5 i hi
    refine ⟨ds, d1, fun j hj => ?_, d3⟩
    rw [← d2 j hj]
    exact World.cell?_of_block (by rw [hb blk _ hne (Array.getElem?_eq_getElem h4), Array.getElem?_eq_getElem h4])
def optI (b : Bool) (x : Itt) : Option Itt := if b = true then some x else none
def SzP (x : Rw) : Prop := x.1.size ≤ 4398046511000 ∧ x.2.size ≤ 4398046511000
theorem getR_mem {R : List Rw} {k s : ByteArray} (h : getR k R = some s) : ∃ x ∈ R, x.2 = s := by
  unfold getR at h
  have ha : ∀ {x : Rw}, x ∈ aboveR k R → x ∈ R := fun h => (List.dropWhile_sublist _).subset h
  generalize aboveR k R = A at h ha
  cases A with
  | nil => cases h
  | cons y r =>
    simp only [List.head?_cons] at h
    split at h
    · cases h
      exact ⟨y, ha List.mem_cons_self, rfl⟩
    · cases h
theorem ittOut_one (o : Option Itt) : o = optI ((ittOut o).2 == 0) (ittOut o).1 := by
  cases o <;> rfl
set_option maxHeartbeats 8000000 in
theorem intent12 {ta g : Nat} {S : Nat → Prop} {R : List Rw} {x : Tx} {w : World} (hw : Sh w) (h : TabAt ta S R w) (hg : w.heap[g]? = some (.cells (rdgC ta x) 123)) (hsz : ∀ x ∈ R, SzP x) (key : ByteArray) :
    Calls Tryz.prog 63 #[.pointer (some ⟨g, 0, none⟩), .string key] w fun e w' => ∃ it vl b, e = .returned (.tuple #[.agg #[.int .i64 it.id, .int .i64 it.epoch, .int .i64 it.prio, .string it.anchor, .int .i64 it.sw, .int .i64 it.sl, .int .i64 it.bw, .int .i64 it.bl, vl], .bool b])
      ∧ RdC w' vl it.l ∧ intentR R key = optI b it ∧ Gr w w' := by
  have HK := Lib.hid (intentKey_any key (w.alloc (.cells #[.int .i64 0, .int .i64 0, .int .i64 0, .string ⟨#[]⟩, .int .i64 0, .int .i64 0, .int .i64 0, .int .i64 0, .slice none 0 0] 40)) (hw.alloc _))
  have HT := Lib.hid h
  have HB := Lib.hid hg
  have HI : Hid (intentR R key = (getR ⟨(intentKeyR key.data.toList).1.toArray⟩ R).bind (fun s => takeIttR s.data.toList)) := Lib.hid rfl
  clear h hg hw
  generalize intentKeyR key.data.toList = ik at *
  obtain ⟨ikl, ike⟩ := ik
  simp only at HK HI
  go_enter Tryz.func63, Tryz.ntmps63
  go_wp2_with fail
  refine HK.out.mono ?_
  rintro e w1 ⟨rfl, hg1⟩
  have HX1 := Lib.hid (((Gr.refl w).alloc _).trans hg1)
  have H0 := Lib.hid (hg1.blk (heap_alloc_new w (.cells #[.int .i64 0, .int .i64 0, .int .i64 0, .string ⟨#[]⟩, .int .i64 0, .int .i64 0, .int .i64 0, .int .i64 0, .slice none 0 0] 40)))
  have hb1 := HX1.out.blk HB.out
  unfold rdgC at hb1
  obtain ⟨k_0, _⟩ := blk15 hb1
  have HGt := Lib.hid (get_tab (HT.out.gr HX1.out) ⟨ikl.toArray⟩)
  clear hg1 hb1
  obtain ⟨s, b, hs, hb⟩ : ∃ s b, outS (getR ⟨ikl.toArray⟩ R) = #[.string s, .bool b] ∧ (b = true → getR ⟨ikl.toArray⟩ R = some s) ∧ (b = false → getR ⟨ikl.toArray⟩ R = none) ∧ s.size ≤ 4398046511000 := by
    cases hv : getR ⟨ikl.toArray⟩ R with
    | none => exact ⟨⟨#[]⟩, false, rfl, fun h => (by cases h), fun _ => rfl, by decide⟩
    | some s =>
      obtain ⟨y, hy, rfl⟩ := getR_mem hv
      exact ⟨y.2, true, rfl, fun _ => rfl, fun h => (by cases h), (hsz y hy).2⟩
  rw [hs] at HGt
  have HS := Lib.hid hb
  clear hs hb
  go_wp2_with fail
  refine HGt.out.mono ?_
  rintro e w2 ⟨rfl, hg2⟩
  have HX2 := Lib.hid (HX1.out.trans hg2)
  replace H0 := Lib.hid (hg2.blk H0.out)
  have HTk := Lib.hid (takeIntent_any s HS.out.2.2 w2)
  have HO1 := Lib.hid (ittOut_one (takeIttR s.data.toList))
  generalize ittOut (takeIttR s.data.toList) = io at *
  obtain ⟨it, ie⟩ := io
  simp only at HTk HO1
  clear hg2 k_0
  go_wp2_with fail
  refine HTk.out.mono ?_
  rintro e w3 ⟨vl, rfl, hrd, hg3⟩
  have HX3 := Lib.hid (HX2.out.trans hg3)
  replace H0 := Lib.hid (hg3.blk H0.out)
  obtain ⟨vq, vz, vc, rfl⟩ : ∃ q z c, vl = .slice q z c := by
    obtain ⟨q, c, e⟩ := RdR.form hrd
    exact ⟨_, _, _, e⟩
  have HRd0 := Lib.hid hrd
  clear hrd hg3
  have hX4 : Gr w3 (w3.alloc (.cells #[.int .i64 it.id, .int .i64 it.epoch, .int .i64 it.prio, .string it.anchor, .int .i64 it.sw, .int .i64 it.sl, .int .i64 it.bw, .int .i64 it.bl, .slice vq vz vc] 40)) := (Gr.refl _).alloc _
  have HS0 := Lib.hid (hX4.blk H0.out)
  have HR := Lib.hid (setRow_heap _ _ _ #[.int .i64 it.id, .int .i64 it.epoch, .int .i64 it.prio, .string it.anchor, .int .i64 it.sw, .int .i64 it.sl, .int .i64 it.bw, .int .i64 it.bl, .slice vq vz vc] _ _ (hX4.blk H0.out))
  have HGf : Hid (Gr w ((w3.alloc (.cells #[.int .i64 it.id, .int .i64 it.epoch, .int .i64 it.prio, .string it.anchor, .int .i64 it.sw, .int .i64 it.sl, .int .i64 it.bw, .int .i64 it.bl, .slice vq vz vc] 40)).setRow w.heap.size #[.int .i64 it.id, .int .i64 it.epoch, .int .i64 it.prio, .string it.anchor, .int .i64 it.sw, .int .i64 it.sl, .int .i64 it.bw, .int .i64 it.bl, .slice vq vz vc])) := Lib.hid ⟨below_setRow (HX3.out.trans hX4).b (Nat.le_refl _) _⟩
  have HRd := Lib.hid (chg_kept (w' := (w3.alloc (.cells #[.int .i64 it.id, .int .i64 it.epoch, .int .i64 it.prio, .string it.anchor, .int .i64 it.sw, .int .i64 it.sl, .int .i64 it.bw, .int .i64 it.bl, .slice vq vz vc] 40)).setRow w.heap.size #[.int .i64 it.id, .int .i64 it.epoch, .int .i64 it.prio, .string it.anchor, .int .i64 it.sw, .int .i64 it.sl, .int .i64 it.bw, .int .i64 it.bl, .slice vq vz vc]) (HRd0.out.gr hX4) (Nat.le_of_eq (size_setRow _ _ _).symm) (fun k o hk ho => by rw [setRow_other _ _ _ _ hk]; exact ho) (hX4.blk H0.out) (by
    intro i z s q ⟨h1, h2, h3⟩
    match i with
    | 0 | 1 | 2 | 3 | 4 | 5 | 6 | 7 | 8 => simp at h1 h2 h3
    | n + 9 => simp at h1))
  have HI0 : Hid ((Tryz.prog.info? 40).map (·.size) = some (#[.int .i64 it.id, .int .i64 it.epoch, .int .i64 it.prio, .string it.anchor, .int .i64 it.sw, .int .i64 it.sl, .int .i64 it.bw, .int .i64 it.bl, .slice vq vz vc] : Array Value).size) := Lib.hid (by rw [show (#[.int .i64 it.id, .int .i64 it.epoch, .int .i64 it.prio, .string it.anchor, .int .i64 it.sw, .int .i64 it.sl, .int .i64 it.bw, .int .i64 it.bl, .slice vq vz vc] : Array Value).size = 9 from rfl]; kernel_rfl)
  have HZ0 : Hid ((#[.int .i64 0, .int .i64 0, .int .i64 0, .string ⟨#[]⟩, .int .i64 0, .int .i64 0, .int .i64 0, .int .i64 0, .slice none 0 0] : Array Value).size = (#[.int .i64 it.id, .int .i64 it.epoch, .int .i64 it.prio, .string it.anchor, .int .i64 it.sw, .int .i64 it.sl, .int .i64 it.bw, .int .i64 it.bl, .slice vq vz vc] : Array Value).size) := Lib.hid rfl
  have HA0 : Hid ((#[.int .i64 it.id, .int .i64 it.epoch, .int .i64 it.prio, .string it.anchor, .int .i64 it.sw, .int .i64 it.sl, .int .i64 it.bw, .int .i64 it.bl, .slice vq vz vc] : Array Value).all (·.oneCell') = true) := Lib.hid (by simp [Value.oneCell'])
  clear hX4
  cases b with
  | false =>
    have HO : Hid (intentR R key = optI false it) := Lib.hid (by rw [HI.out, HS.out.2.1 rfl]; rfl)
    clear HI HS HO1
    go_wp2_with (refine wpList_store_row (by rfl) _ _ _ (by rfl) _ _ (by rfl) (by rfl) _ _ HS0.out HI0.out HZ0.out HA0.out ?_)
    refine bodyPost_ret (v := .tuple #[.agg #[.int .i64 it.id, .int .i64 it.epoch, .int .i64 it.prio, .string it.anchor, .int .i64 it.sw, .int .i64 it.sl, .int .i64 it.bw, .int .i64 it.bl, .slice vq vz vc], .bool _]) ?_ rfl ⟨it, _, _, rfl, HRd.out, HO.out, HGf.out⟩
    exact results_row_tmp rfl _ _ _ _ _ _ _ rfl HR.out Tryz.underlying40 rfl (by kernel_rfl) rfl
  | true =>
    by_cases hz : ie = 0
    · subst hz
      have HO : Hid (intentR R key = optI true it) := Lib.hid (by rw [HI.out, HS.out.1 rfl]; exact HO1.out)
      clear HI HS HO1
      go_wp2_with (refine wpList_store_row (by rfl) _ _ _ (by rfl) _ _ (by rfl) (by rfl) _ _ HS0.out HI0.out HZ0.out HA0.out ?_)
      refine bodyPost_ret (v := .tuple #[.agg #[.int .i64 it.id, .int .i64 it.epoch, .int .i64 it.prio, .string it.anchor, .int .i64 it.sw, .int .i64 it.sl, .int .i64 it.bw, .int .i64 it.bl, .slice vq vz vc], .bool _]) ?_ rfl ⟨it, _, _, rfl, HRd.out, HO.out, HGf.out⟩
      exact results_row_tmp rfl _ _ _ _ _ _ _ rfl HR.out Tryz.underlying40 rfl (by kernel_rfl) rfl
    · have hzf : (ie == 0) = false := by simpa using hz
      have HO : Hid (intentR R key = optI false it) := Lib.hid (by rw [HI.out, HS.out.1 rfl]; rw [hzf] at HO1; exact HO1.out)
      clear HI HS HO1
      go_wp2_with (refine wpList_store_row (by rfl) _ _ _ (by rfl) _ _ (by rfl) (by rfl) _ _ HS0.out HI0.out HZ0.out HA0.out ?_)
      refine bodyPost_ret (v := .tuple #[.agg #[.int .i64 it.id, .int .i64 it.epoch, .int .i64 it.prio, .string it.anchor, .int .i64 it.sw, .int .i64 it.sl, .int .i64 it.bw, .int .i64 it.bl, .slice vq vz vc], .bool _]) ?_ rfl ⟨it, _, _, rfl, HRd.out, HO.out, HGf.out⟩
      exact results_row_tmp rfl _ _ _ _ _ _ _ rfl HR.out Tryz.underlying40 rfl (by kernel_rfl) rfl
end Go.Proofs.YthgecojbggoniaaGreatDoor
