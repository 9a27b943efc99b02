/- What the rows stand on, part 41: ThC, PekT. Printed by bundle.py out of my texts. -/
import Derived.Test.YthgecojbggoniaaGreatDoorBe33
import Derived.Test.YthgecojbggoniaaGreatDoorBe40
namespace Go.Proofs.YthgecojbggoniaaGreatDoor
open Go.RowKit
set_option maxRecDepth 100000
set_option linter.unusedVariables false
set_option linter.unusedSimpArgs false
set_option linter.unnecessarySimpa false

set_option maxHeartbeats 8000000 in
theorem tables12 {w : World} {v : Value} {l : List Th} (hl : RdT w v l) (hlen : l.length ≤ 140737488355328) (hit : ∀ x ∈ l, x.it.l.length ≤ 140737488355328) :
    Calls Tryz.prog 7 #[v] w fun e w' => ∃ ta tb, e = .returned (.tuple #[.pointer (some ⟨ta, 0, none⟩), .pointer (some ⟨tb, 0, none⟩)]) ∧ TwoAt w.heap.size ta tb (tabR (opsT l)) w' ∧ Gr w w' := by
  have HL := Lib.hid hl
  have HI := Lib.hid hit
  clear hl hit
  go_enter Tryz.func7, Tryz.ntmps7
  go_wp2_with fail
  refine (new_tab 1 w).mono ?_
  rintro e w1 ⟨ta, rfl, h1, hg1⟩
  have hd : DocAt w1.heap.size w1.heap.size [] (w1.alloc (.cells #[.slice none 0 0] 61)) := ⟨⟨_, heap_alloc_new _ _, OwnG.nil _ _⟩, Nat.le_refl _⟩
  have HT0 := Lib.hid (two_new h1 hg1 hd ((Gr.refl _).alloc _))
  have HG0 : Hid (Gr w (w1.alloc (.cells #[.slice none 0 0] 61))) := Lib.hid (hg1.alloc _)
  clear h1 hg1 hd
  go_wp2_with fail
  refine (laid12 (HL.out.gr HG0.out) hlen HI.out).mono ?_
  rintro e w2 ⟨vo, rfl, ho, hg2⟩
  have hN : w.heap.size ≤ (w1.alloc (.cells #[.slice none 0 0] 61)).heap.size := HG0.out.size
  obtain ⟨q, c, e⟩ := ho.slice
  subst e
  have HO2 := Lib.hid (ho.mono hN)
  have HT2 := Lib.hid (HT0.out.gr hg2)
  have HG2 := Lib.hid (HG0.out.trans hg2)
  have HLn : Hid ((opsT l).length ≤ 60) := Lib.hid (opsK_len l 60)
  clear ho hg2 hN HT0 HG0
  generalize hops : opsT l = ops at *
  have HOps := Lib.hid hops
  clear hops
  have hlenw := fun W ty => len_ops (w := W) (q := q) (n := ops.length) (c := c) (ty := ty)
  go_wp2
  go_loopw [7] (fun iv wr => ∃ k : Nat, iv = .int .i64 k ∧ k ≤ ops.length ∧ Hid (TwoAt w.heap.size ta w1.heap.size (tabR (ops.take k)) wr) ∧ Hid (Gr w wr) ∧ Hid (OwnG 67 3 oppC wr w.heap.size (.slice q ops.length c) ops)) (fun iv _ => ops.length - (intOf iv).toNat)
  case atStart => exact ⟨0, rfl, Nat.zero_le _, HT2, HG2, HO2⟩
  case round =>
    obtain ⟨k, rfl, hk, HT, HG, HO⟩ := hrel
    clear HT2 HG2 HO2
    by_cases hkl : k < ops.length
    · obtain ⟨bo, oo, rfl, hc1, hc2, hA⟩ := own_one HO.out rfl hkl
      have HA := Lib.hid hA
      have HLk : Hid ((tabR (ops.take k)).length ≤ 1000000) := Lib.hid (by have := tabR_len (ops.take k); rw [List.length_take] at this; have := HLn.out; omega)
      have HS := Lib.hid (tabR_snoc hkl)
      clear hA
      go_wp2_with fail
      refine (two_a HT.out rfl HG.out HLk.out (HA.out _ HO.out)).mono ?_
      rintro e w5 ⟨rfl, h5, hg5, hf5⟩
      have HH5 := Lib.hid h5
      have HG5 := Lib.hid hg5
      have HO5 := Lib.hid (own_fru hf5 HO.out)
      clear h5 hg5 hf5
      go_wp2_with fail
      refine (two_b HH5.out rfl HG5.out HLk.out (HA.out _ HO5.out) rfl).mono ?_
      rintro e w6 ⟨rfl, h6, hg6, hf6⟩
      obtain ⟨vd, hvd, _⟩ := HH5.out.b.ex
      have HT6 := Lib.hid h6
      have HG6 := Lib.hid hg6
      have HO6 := Lib.hid (own_fr1 hf6 hvd HO5.out)
      clear h6 hg6 hf6 hvd
      go_wp2
      go_roundw
      case rel => exact ⟨k + 1, by go_num, by omega, Lib.hid (by rw [HS.out]; exact HT6.out), HG6, HO6⟩
      case measure => simp [intOf]; omega
    · obtain rfl : k = ops.length := by omega
      go_wp2
      go_ret2
      exact ⟨ta, w1.heap.size, rfl, by have := HT.out; rw [List.take_length] at this; rw [HOps.out]; exact this, HG.out⟩
end Go.Proofs.YthgecojbggoniaaGreatDoor
namespace Go.Proofs.YthgecojbggoniaaGreatDoor
open Go.RowKit
set_option maxRecDepth 100000
set_option linter.unusedVariables false
set_option linter.unusedSimpArgs false
set_option linter.unnecessarySimpa false

theorem mem_one {R : List Rw} {o : Opp} {x : Rw} (h : x ∈ one R o) : x ∈ R ∨ x = (o.key, o.val) := by
  have hb : ∀ {x : Rw}, x ∈ belowR o.key R → x ∈ R := fun h => (List.takeWhile_sublist _).subset h
  have hr : ∀ {x : Rw}, x ∈ restR o.key (aboveR o.key R) → x ∈ R := fun {x} h => by
    have ha : ∀ {x : Rw}, x ∈ aboveR o.key R → x ∈ R := fun h => (List.dropWhile_sublist _).subset h
    generalize aboveR o.key R = A at h ha
    cases A with
    | nil => cases h
    | cons y r =>
      simp only [restR] at h
      split at h
      · exact ha (List.mem_cons_of_mem _ h)
      · exact ha h
  unfold one at h
  split at h
  · unfold dropR at h
    rcases List.mem_append.1 h with h | h
    · exact .inl (hb h)
    · exact .inl (hr h)
  · unfold putR at h
    rcases List.mem_append.1 h with h | h
    · exact .inl (hb h)
    · rcases List.mem_cons.1 h with h | h
      · exact .inr h
      · exact .inl (hr h)
theorem mem_after {R : List Rw} {o : Opp} {x : Rw} (h : x ∈ afterR [o] R) : x ∈ R ∨ x = (o.key, o.val) := by
  unfold afterR at h
  split at h
  · exact mem_one h
  · exact .inl h
theorem esc_len (l : List UInt8) : (esc l).length ≤ 2 * l.length := by
  induction l with
  | nil => simp [esc]
  | cons c r ih => unfold esc; split <;> simp <;> omega
theorem size_ofL (l : List UInt8) : (ofL l).size = l.length := by simp [ofL, ByteArray.size]
theorem ittT_len (x : Itt) : (ittT x).length ≤ 1600 := by
  unfold ittT
  split
  · rename_i h
    rw [ittW_eq, List.length_append]
    have h1 := ittH_length x
    have h2 := chgsW_length x.l
    have h3 := ok16 h
    omega
  · simp
theorem verW_len (v : List UInt8) (is : Bool) : (versionW v is).length ≤ 200 := by
  unfold versionW
  split
  · split
    · have h3 := numW_length 1
      have h4 := strW_length v
      rename_i hv _
      rw [List.length_append]
      unfold okV at hv
      simp only [Bool.and_eq_true, decide_eq_true_eq] at hv
      omega
    · have h3 := numW_length 0
      omega
  · simp
theorem verK_len (l : List UInt8) (a b : Int) : (versionKeyR l a b).1.length ≤ 2100 := by
  unfold versionKeyR
  split
  · rename_i h2
    have := esc_len l
    have h3 := downL_length a b
    simp [keyL, h3]; omega
  · simp
theorem intK_len (l : List UInt8) : (intentKeyR l).1.length ≤ 2100 := by
  unfold intentKeyR
  split
  · rename_i h1
    have := esc_len l
    simp [keyL]; omega
  · simp
theorem thOp_sz {c : Th} {o : Opp} (hk : c.key.size ≤ 4398046511000) (hv : c.val.size ≤ 4398046511000) (h : thOp c = some o) : SzP (o.key, o.val) := by
  unfold thOp at h
  split at h
  · split at h
    · cases h
      have h1 := verK_len c.key.data.toList c.wall c.tick
      have h2 := verW_len (thVer c) (!c.gone)
      exact ⟨by simp only [size_ofL]; omega, by simp only [size_ofL]; omega⟩
    · cases h
  · split at h
    · split at h
      · cases h
        have h1 := intK_len c.key.data.toList
        have h2 := ittT_len c.it
        exact ⟨by simp only [size_ofL]; omega, by simp only [size_ofL]; omega⟩
      · cases h
    · cases h
      exact ⟨hk, hv⟩
def SzT (c : Th) : Prop := c.key.size ≤ 4398046511000 ∧ c.val.size ≤ 4398046511000
theorem tab_szs {l : List Th} (hl : ∀ c ∈ l, SzT c) : ∀ x ∈ tabR (opsT l), SzP x := by
  have gen : ∀ (ops : List Opp) (R : List Rw), (∀ o ∈ ops, SzP (o.key, o.val)) → (∀ x ∈ R, SzP x) → ∀ x ∈ ops.foldl (fun R o => afterR [o] R) R, SzP x := by
    intro ops
    induction ops with
    | nil => intro R _ h; exact h
    | cons o r ih =>
      intro R h1 h2
      rw [List.foldl_cons]
      refine ih _ (fun o' ho' => h1 o' (List.mem_cons_of_mem _ ho')) (fun x hx => ?_)
      rcases mem_after hx with h | h
      · exact h2 x h
      · rw [h]; exact h1 o List.mem_cons_self
  refine gen (opsT l) [] (fun o ho => ?_) (fun x hx => by cases hx)
  unfold opsT at ho
  obtain ⟨c, hc, ho⟩ := List.mem_filterMap.1 ho
  have := hl c (List.mem_of_mem_take hc)
  exact thOp_sz this.1 this.2 ho
theorem tab60 (l : List Th) : (tabR (opsT l)).length ≤ 60 := Nat.le_trans (tabR_len _) (opsK_len l 60)
end Go.Proofs.YthgecojbggoniaaGreatDoor
