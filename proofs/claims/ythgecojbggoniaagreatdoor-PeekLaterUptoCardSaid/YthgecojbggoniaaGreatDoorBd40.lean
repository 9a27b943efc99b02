/- What the rows stand on, part 40: PekQ, PekF, PekT. Printed by bundle.py out of my texts. -/
import Derived.Test.YthgecojbggoniaaGreatDoorBd03
import Derived.Test.YthgecojbggoniaaGreatDoorBd15
import Derived.Test.YthgecojbggoniaaGreatDoorBd32
import Derived.Test.YthgecojbggoniaaGreatDoorBd35
import Derived.Test.YthgecojbggoniaaGreatDoorBd36
import Derived.Test.YthgecojbggoniaaGreatDoorBd37
import Derived.Test.YthgecojbggoniaaGreatDoorBd38
namespace Go.Proofs.YthgecojbggoniaaGreatDoor
open Go.RowKit
set_option maxRecDepth 100000
set_option linter.unusedVariables false
set_option linter.unusedSimpArgs false
set_option linter.unnecessarySimpa false

theorem rdc_slice {w : World} {v : Value} {l : List Chg} (h : RdC w v l) : ∃ q z c, v = .slice q z c := by
  obtain ⟨q, c, e⟩ := RdR.form h
  exact ⟨_, _, _, e⟩
theorem noChg_fnd (f : Fnd) (vl : Value) : noChg (fndA f vl) := by
  intro i z s q ⟨h1, h2, h3⟩
  unfold fndA at h1 h2 h3
  match i with
  | 0 | 1 | 2 | 3 | 4 | 5 | 6 | 7 | 8 | 9 | 10 | 11 | 12 | 13 | 14 => simp at h1 h2 h3
  | n + 15 => simp at h1
/-- a row that is a version of a key -/
def vofK (key : ByteArray) (x : Rw) : Bool := vOk x && (kl x == key.data.toList)
def versR (R : List Rw) (key : ByteArray) : List Rw := R.filter (vofK key)
def upB (a b : Int) (x : Rw) : Bool := !lessS a b (sa x) (sb x)
def docRow (R : List Rw) (key : ByteArray) (a b : Int) : Option Rw := (versR R key).find? (upB a b)
theorem data_ofL (l : List UInt8) : (ofL l).data.toList = l := by simp [ofL]
theorem key_len {key : ByteArray} (h : keyOk key = true) : key.data.toList.length ≤ 1000 := by
  unfold keyOk at h
  simp only [decide_eq_true_eq] at h
  have : key.data.toList.length = key.size := Array.length_toList
  omega
theorem verKey_ok {l : List UInt8} {a b : Int} (hl : l.length ≤ 1000) (hm : mayB a b = true) : (versionKeyR l a b).1 = 118 :: (keyL l ++ downL a b) := by
  unfold versionKeyR
  rw [if_pos ⟨hl, hm⟩]
theorem bl_nul_iff (x k : List UInt8) : Op.bytesLess x (k ++ [0]) = !Op.bytesLess k x := by
  cases h : Op.bytesLess x (k ++ [0]) with
  | true =>
    rcases bl_nul x k h with h1 | h1
    · cases h2 : Op.bytesLess k x with
      | false => rfl
      | true => exact absurd (bl_trans h1 h2) (by rw [bl_irrefl]; simp)
    · subst h1; rw [bl_irrefl]; rfl
  | false =>
    cases h2 : Op.bytesLess k x with
    | true => rfl
    | false =>
      exfalso
      cases h3 : Op.bytesLess x k with
      | true => rw [bl_trans h3 (bl_nul_lt k)] at h; cases h
      | false =>
        rw [bl_total _ _ h3 h2, bl_nul_lt] at h; cases h
theorem vOk_rdk {x : Rw} (h : vOk x = true) : rdk x = true := by
  unfold vOk at h
  simp only [Bool.and_eq_true] at h
  exact h.1
theorem rdk_form {x : Rw} (h : rdk x = true) : x.1.data.toList = 118 :: (keyL (kl x) ++ downL (sa x) (sb x)) ∧ mayB (sa x) (sb x) = true := by
  unfold rdk at h
  exact readV_inv (by simpa using h)
theorem lessS_iff (a b c d : Int) : lessS a b c d = decide (a < c ∨ a = c ∧ b < d) := by
  unfold lessS
  by_cases h1 : a < c <;> by_cases h2 : a = c <;> by_cases h3 : b < d <;> simp [h1, h2, h3]
theorem may_zero : mayB 0 0 = true := by decide
/-- a row lies between a key's version at the top and its last one just if it is a version of the key at or below the top -/
theorem in_ver {key : ByteArray} (hk : keyOk key = true) {a b : Int} (hm : mayB a b = true) {x : Rw} (hx : vOk x = true) :
    inB (ofL (versionKeyR key.data.toList a b).1) (ofL (versionKeyR key.data.toList 0 0).1 ++ nul) x = ((kl x == key.data.toList) && upB a b x) := by
  obtain ⟨h1, h2⟩ := rdk_form (vOk_rdk hx)
  have hl := key_len hk
  unfold inB
  rw [klt_data, klt_data, h1, data_ofL, verKey_ok hl hm]
  have e : (ofL (versionKeyR key.data.toList 0 0).1 ++ nul).data.toList = (118 :: (keyL key.data.toList ++ downL 0 0)) ++ [0] := by
    rw [verKey_ok hl may_zero]
    have := nul_list (ofL (118 :: (keyL key.data.toList ++ downL 0 0)))
    rw [ByteArray.toList_eq, ByteArray.toList_eq, data_ofL] at this
    exact this
  have e2 : (ofL (versionKeyR key.data.toList 0 0).1 ++ nul).toList.isEmpty = false := by
    rw [ByteArray.toList_eq, e]; rfl
  rw [e2, e, bl_nul_iff, less_cons, less_cons, Bool.false_or]
  by_cases he : kl x = key.data.toList
  · rw [he, less_key_same, less_key_same, less_down h2 hm, less_down may_zero h2]
    unfold upB
    rw [lessS_iff]
    obtain ⟨m1, m2, m3, m4⟩ := may_iff.1 h2
    have hz : ¬ (sa x < 0 ∨ 0 = sa x ∧ sb x < 0) := by omega
    have hq : (a < sa x ∨ a = sa x ∧ b < sb x) ↔ (a < sa x ∨ sa x = a ∧ b < sb x) := by omega
    simp [hz, hq]
  · rw [less_key_app he, less_key_app (fun e => he e.symm)]
    have : (kl x == key.data.toList) = false := by simpa using he
    rw [this, Bool.false_and]
    cases h3 : Op.bytesLess (kl x) key.data.toList with
    | true => rfl
    | false =>
      cases h4 : Op.bytesLess key.data.toList (kl x) with
      | true => rfl
      | false => exact absurd (bl_total _ _ h3 h4) he
theorem find_filter {α : Type} (p q : α → Bool) : ∀ l : List α, (l.filter p).find? q = l.find? (fun x => p x && q x)
  | [] => rfl
  | x :: r => by
    rw [List.filter_cons]
    cases hp : p x with
    | true =>
      rw [if_pos rfl, List.find?_cons, List.find?_cons, hp]
      simp only [Bool.true_and]
      cases q x with
      | true => rfl
      | false => exact find_filter p q r
    | false =>
      rw [if_neg (by simp), List.find?_cons, hp]
      simp only [Bool.false_and]
      exact find_filter p q r
theorem find_congr {α : Type} {p q : α → Bool} : ∀ {l : List α}, (∀ x ∈ l, p x = q x) → l.find? p = l.find? q
  | [], _ => rfl
  | x :: r, h => by
    rw [List.find?_cons, List.find?_cons, h x List.mem_cons_self]
    cases q x with
    | true => rfl
    | false => exact find_congr (fun y hy => h y (List.mem_cons_of_mem _ hy))
theorem verRow_doc {R : List Rw} (hR : RisingR R) {key : ByteArray} (hk : keyOk key = true) {a b : Int} (hm : mayB a b = true) : verRow R key a b = docRow R key a b := by
  unfold verRow docRow versR
  rw [between_filter hR, find_filter, find_filter]
  refine find_congr (fun x _ => ?_)
  cases hv : vOk x with
  | false => unfold vofK; rw [hv]; simp
  | true => rw [in_ver hk hm hv]; unfold vofK; rw [hv]; simp
/-! what the document reads -/
def restD (R : List Rw) (key : ByteArray) (x : Tx) : Fnd × Int := match docRow R key (topS x).1 (topS x).2 with
  | none => (⟨key, ⟨#[]⟩, false, false, 0, 0, itt0⟩, 0)
  | some v => if (!lessS (sa v) (sb v) x.rw x.rl) = true then (⟨key, ⟨#[]⟩, false, false, sa v, sb v, itt0⟩, 121) else (verOne key v, 0)
def foundD (R : List Rw) (key : ByteArray) (x : Tx) : Fnd × Int := match intentR R key with
  | none => restD R key x
  | some y =>
    if y.id = x.id then
      if x.ep < y.epoch then (fnd0, 201)
      else if y.epoch = x.ep then (⟨key, (lastC y.l).value, !(lastC y.l).del, true, y.sw, y.sl, itt0⟩, 0)
      else restD R key x
    else if (!lessS (topS x).1 (topS x).2 y.sw y.sl) = true then (⟨key, ⟨#[]⟩, false, false, 0, 0, y⟩, 120)
    else restD R key x
def getD (R : List Rw) (key : ByteArray) (x : Tx) (a b : Int) : Fnd × Int :=
  if (!keyOk key || (!mayT x || !mayB a b)) = true then (fnd0, 2) else if (!lessS a b x.rw x.rl) = true then (fnd0, 122) else foundD R key x
theorem top_may {x : Tx} (h : mayT x = true) : mayB (topS x).1 (topS x).2 = true := by
  unfold mayT at h
  simp only [Bool.and_eq_true] at h
  unfold topS
  split
  · exact h.2.2
  · exact h.2.1
theorem rest_doc {R : List Rw} (hR : RisingR R) {key : ByteArray} (hk : keyOk key = true) {x : Tx} (hm : mayT x = true) : restF R key x = restD R key x := by
  unfold restF restD verF
  rw [verRow_doc hR hk (top_may hm)]
  cases docRow R key (topS x).1 (topS x).2 with
  | none => simp
  | some v =>
    simp only [verOne, Bool.true_and]
theorem get_doc {R : List Rw} (hR : RisingR R) (key : ByteArray) (x : Tx) (a b : Int) : getF R key x a b = getD R key x a b := by
  unfold getF getD beginsE
  cases hk : keyOk key with
  | false => simp
  | true =>
    cases hm : mayT x with
    | false => simp
    | true =>
      cases hb : mayB a b with
      | false => simp
      | true =>
        cases hl : lessS a b x.rw x.rl with
        | false => simp
        | true =>
          simp only [Bool.not_true, Bool.or_self, Bool.and_self, Bool.false_eq_true, ↓reduceIte, ne_eq, not_true_eq_false, Bool.false_or, Bool.or_false]
          unfold foundF foundD
          rw [rest_doc hR hk hm]
          cases intentR R key <;> rfl
end Go.Proofs.YthgecojbggoniaaGreatDoor
namespace Go.Proofs.YthgecojbggoniaaGreatDoor
open Go.RowKit
set_option maxRecDepth 100000
set_option linter.unusedVariables false
set_option linter.unusedSimpArgs false
set_option linter.unnecessarySimpa false

theorem keyOk_check (key : ByteArray) : (checkE key.size == 0) = keyOk key := by
  unfold checkE keyOk
  split <;> rename_i h
  · simp [h]
  · simp [h]
set_option maxHeartbeats 8000000 in
theorem get12 {ta : Nat} {S : Nat → Prop} {R : List Rw} {w : World} (hw : Sh w) (h : TabAt ta S R w) (hsz : ∀ x ∈ R, x.1.size < 140737488355328 ∧ x.2.size ≤ 140737488351232) (hszp : ∀ x ∈ R, SzP x) (key : ByteArray) (x : Tx) (a b : Int) :
    Calls Tryz.prog 11 #[.pointer (some ⟨ta, 0, none⟩), .string key, .agg (txC x), .agg #[.int .i64 a, .int .i64 b]] w fun e w' => ∃ vl, e = .returned (.tuple #[.agg (fndA (getF R key x a b).1 vl), .int .i64 (getF R key x a b).2]) ∧ RdC w' vl (getF R key x a b).1.way.l ∧ Gr w w' := by
  have HB := Lib.hid (fun w => begins_any ta (keyOk key) x a b w)
  have HK := Lib.hid (fun w' g (hg : Gr w w') (hb : w'.heap[g]? = some (Obj.cells (rdgC ta x) 123 (0, 0))) => key12 (hw.gr hg) (h.gr hg) hb hsz hszp key)
  have HR : Hid (getF R key x a b = if beginsE (keyOk key) x a b ≠ 0 then (fnd0, beginsE (keyOk key) x a b) else foundF R key x) := Lib.hid rfl
  have HC : Hid ((checkE key.size == 0) = keyOk key) := Lib.hid (keyOk_check key)
  have HI15 : Hid ((Tryz.prog.info? 42).map (·.size) = some 15) := Lib.hid (by kernel_rfl)
  clear hw h hsz hszp
  generalize beginsE (keyOk key) x a b = ee at *
  generalize getF R key x a b = gg at *
  unfold txC at *
  obtain ⟨W1, hW1⟩ : ∃ W1, W1 = ((w.alloc (.cells #[.int .i64 x.id, .int .i64 x.ep, .int .i64 x.pr, .string x.an, .int .i64 x.rw, .int .i64 x.rl, .int .i64 x.ww, .int .i64 x.wl, .int .i64 x.lw, .int .i64 x.ll, .int .i64 x.bw, .int .i64 x.bl] 28)).alloc (.cells #[.int .i64 a, .int .i64 b] 26)).alloc (.cells #[.string ⟨#[]⟩, .string ⟨#[]⟩, .bool false, .bool false, .int .i64 0, .int .i64 0, .int .i64 0, .int .i64 0, .int .i64 0, .string ⟨#[]⟩, .int .i64 0, .int .i64 0, .int .i64 0, .int .i64 0, .slice none 0 0] 42) := ⟨_, rfl⟩
  have HX1 : Hid (Gr w W1) := Lib.hid (by rw [hW1]; exact (((Gr.refl w).alloc _).alloc _).alloc _)
  have HF : Hid (W1.heap[w.heap.size + 1 + 1]? = some (.cells (fndA fnd0 (.slice none 0 0)) 42)) := Lib.hid (by rw [hW1]; exact heap_newn (by simp))
  obtain ⟨k_0, k_1, k_2, k_3, k_4, k_5, k_6, k_7, k_8, k_9, k_10, k_11, _, _, _, _, _, _, _, _, _, _, _, _, _⟩ := blk12 (show W1.heap[w.heap.size]? = _ by rw [hW1]; exact ((Gr.refl _).alloc _).blk (((Gr.refl _).alloc _).blk (heap_alloc_new w _)))
  obtain ⟨c_0, c_1, _, _, _⟩ := blk2 (show W1.heap[w.heap.size + 1]? = _ by rw [hW1]; exact ((Gr.refl _).alloc _).blk (heap_newn (by simp)))
  have F0 := cellRule (w := W1.drew) k_0
  have F1 := cellRule (w := W1.drew) k_1
  have F2 := cellRule (w := W1.drew) k_2
  have F3 := cellRule (w := W1.drew) k_3
  have F4 := cellRule (w := W1.drew) k_4
  have F5 := cellRule (w := W1.drew) k_5
  have F6 := cellRule (w := W1.drew) k_6
  have F7 := cellRule (w := W1.drew) k_7
  have F8 := cellRule (w := W1.drew) k_8
  have F9 := cellRule (w := W1.drew) k_9
  have F10 := cellRule (w := W1.drew) k_10
  have F11 := cellRule (w := W1.drew) k_11
  have G0 := cellRule (w := W1.drew) c_0
  have G1 := cellRule (w := W1.drew) c_1
  have HW1 := Lib.hid hW1
  clear k_0 k_1 k_2 k_3 k_4 k_5 k_6 k_7 k_8 k_9 k_10 k_11 c_0 c_1 hW1
  go_enter Tryz.func11, Tryz.ntmps11
  go_wp2_with fail
  rw [← HW1.out]
  refine wp_region_T (S := fun w' => Gr W1.drew w') [] (by kernel_rfl) (Gr.refl _) (fun hHeld => ?_)
  try dsimp only at hHeld
  refine wpAnyT_take (i := 0) rfl (by kernel_rfl) (by kernel_rfl) (by kernel_rfl) (by kernel_rfl) (fun _ _ _ h => h) (Or.inl ⟨by rfl, by intro w hSw; (try dsimp only at hSw); go_simp; (try with_reducible rfl)⟩) (by assumption) ?_; (try simp only [Act.put, List.setIfInBounds_toArray, List.set_cons_zero, List.set_cons_succ, List.getElem_toArray, List.getElem_cons_zero, List.getElem_cons_succ])
  refine wpAnyT_take (i := 1) rfl (by kernel_rfl) (by kernel_rfl) (by kernel_rfl) (by kernel_rfl) (fun _ _ _ h => h) (Or.inl ⟨by rfl, by intro w hSw; (try dsimp only at hSw); go_simp; (try with_reducible rfl)⟩) (by assumption) ?_; (try simp only [Act.put, List.setIfInBounds_toArray, List.set_cons_zero, List.set_cons_succ, List.getElem_toArray, List.getElem_cons_zero, List.getElem_cons_succ])
  refine wpAnyT_take (i := 4) rfl (by kernel_rfl) (by kernel_rfl) (by kernel_rfl) (by kernel_rfl) (fun _ _ _ h => h) (Or.inl ⟨by rfl, by intro w hSw; (try dsimp only at hSw); go_simp; (try with_reducible rfl)⟩) (by assumption) ?_; (try simp only [Act.put, List.setIfInBounds_toArray, List.set_cons_zero, List.set_cons_succ, List.getElem_toArray, List.getElem_cons_zero, List.getElem_cons_succ])
  refine wpAnyT_take (i := 5) rfl (by kernel_rfl) (by kernel_rfl) (by kernel_rfl) (by kernel_rfl) (fun _ _ _ h => h) (Or.inl ⟨by rfl, by intro w hSw; (try dsimp only at hSw); go_simp; (try with_reducible rfl)⟩) (by assumption) ?_; (try simp only [Act.put, List.setIfInBounds_toArray, List.set_cons_zero, List.set_cons_succ, List.getElem_toArray, List.getElem_cons_zero, List.getElem_cons_succ])
  refine wpAnyT_ready (rs := [2]) (by kernel_rfl) (by simp) ?_
  refine AllReadyT.cons rfl (fun K hK => ?_) AllReadyT.nil
  go_simp
  refine (check_any _ _).mono ?_
  rintro e w1 ⟨rfl, rfl⟩
  refine hK.out _ _ (by assumption) (fun _ => ?_)
  clear hK K
  refine wpAnyT_take (i := 3) rfl (by kernel_rfl) (by kernel_rfl) (by kernel_rfl) (by kernel_rfl) (fun _ _ _ h => h) (Or.inl ⟨by rfl, by intro w hSw; (try dsimp only at hSw); go_simp; (try with_reducible rfl)⟩) (by assumption) ?_; (try simp only [Act.put, List.setIfInBounds_toArray, List.set_cons_zero, List.set_cons_succ, List.getElem_toArray, List.getElem_cons_zero, List.getElem_cons_succ])
  rw [HC.out]
  refine wpAnyT_ready (rs := [6]) (by kernel_rfl) (by simp) ?_
  refine AllReadyT.cons rfl (fun K hK => ?_) AllReadyT.nil
  go_simp
  refine (HB.out _).mono ?_
  rintro e w2 ⟨rp, rfl, hg2, hb2⟩
  refine hK.out _ _ hg2 (fun _ => wpAnyT_turn hg2 (fun hHeld => ?_))
  clear hK K F0 F1 F2 F3 F4 F5 F6 F7 F8 F9 F10 F11 G0 G1
  refine wpAnyT_take (i := 7) rfl (by kernel_rfl) (by kernel_rfl) (by kernel_rfl) (by kernel_rfl) (fun _ _ _ h => h) (Or.inl ⟨by rfl, by intro w hSw; (try dsimp only at hSw); go_simp; (try with_reducible rfl)⟩) (by assumption) ?_; (try simp only [Act.put, List.setIfInBounds_toArray, List.set_cons_zero, List.set_cons_succ, List.getElem_toArray, List.getElem_cons_zero, List.getElem_cons_succ])
  refine wpAnyT_take (i := 8) rfl (by kernel_rfl) (by kernel_rfl) (by kernel_rfl) (by kernel_rfl) (fun _ _ _ h => h) (Or.inl ⟨by rfl, by intro w hSw; (try dsimp only at hSw); go_simp; (try with_reducible rfl)⟩) (by assumption) ?_; (try simp only [Act.put, List.setIfInBounds_toArray, List.set_cons_zero, List.set_cons_succ, List.getElem_toArray, List.getElem_cons_zero, List.getElem_cons_succ])
  refine wpAnyT_take (i := 9) rfl (by kernel_rfl) (by kernel_rfl) (by kernel_rfl) (by kernel_rfl) (fun _ _ _ h => h) (Or.inl ⟨by rfl, by intro w hSw; (try dsimp only at hSw); go_simp; (try with_reducible rfl)⟩) (by assumption) ?_; (try simp only [Act.put, List.setIfInBounds_toArray, List.set_cons_zero, List.set_cons_succ, List.getElem_toArray, List.getElem_cons_zero, List.getElem_cons_succ])
  refine wpAnyT_take (i := 10) rfl (by kernel_rfl) (by kernel_rfl) (by kernel_rfl) (by kernel_rfl) (fun _ _ _ h => h) (Or.inl ⟨by rfl, by intro w hSw; (try dsimp only at hSw); go_simp; (try with_reducible rfl)⟩) (by assumption) ?_; (try simp only [Act.put, List.setIfInBounds_toArray, List.set_cons_zero, List.set_cons_succ, List.getElem_toArray, List.getElem_cons_zero, List.getElem_cons_succ])
  refine wpAnyT_take (i := 11) rfl (by kernel_rfl) (by kernel_rfl) (by kernel_rfl) (by kernel_rfl) (fun _ _ _ h => h) (Or.inl ⟨by rfl, by intro w hSw; (try dsimp only at hSw); go_simp; (try with_reducible rfl)⟩) (by assumption) ?_; (try simp only [Act.put, List.setIfInBounds_toArray, List.set_cons_zero, List.set_cons_succ, List.getElem_toArray, List.getElem_cons_zero, List.getElem_cons_succ])
  refine wpAnyT_done (by kernel_rfl) ?_ _
  have HX2 := Lib.hid (HX1.out.drew.trans hg2)
  have HF2 := Lib.hid (hg2.blk (heap_drew HF.out))
  have HB2 := Lib.hid hb2
  clear hg2 hb2 hHeld
  by_cases hee : ee = 0
  · obtain ⟨g, rfl, hgb⟩ := HB2.out hee
    have HRes : Hid (gg = foundF R key x) := Lib.hid (by rw [HR.out, if_neg (by simp [hee])])
    have HKk := Lib.hid (HK.out w2 g HX2.out hgb)
    subst hee
    clear HB2 hgb HK
    generalize foundF R key x = ff at *
    obtain ⟨f, fe⟩ := ff
    simp only at HKk
    go_wp2_with fail
    refine HKk.out.mono ?_
    rintro e w3 ⟨vl, rfl, hrd, hg3⟩
    obtain ⟨vq, vz, vc, rfl⟩ := rdc_slice hrd
    have H4 := Lib.hid (hg3.blk HF2.out)
    have HXf := Lib.hid (HX2.out.trans hg3)
    have HRd := Lib.hid (chg_kept (w' := w3.setRow (w.heap.size + 1 + 1) (fndA f (.slice vq vz vc))) hrd (Nat.le_of_eq (size_setRow _ _ _).symm) (fun k o hk ho => by rw [setRow_other _ _ _ _ hk]; exact ho) H4.out (noChg_fnd _ _))
    clear hrd hg3
    go_wp2_with (refine wpList_store_row (by rfl) _ _ _ (by rfl) _ (fndA f (.slice vq vz vc)) (by rfl) (by rfl) _ _ H4.out HI15.out (by rfl) (fnd_one _ _ _ _) ?_)
    refine bodyPost_ret (v := .tuple #[.agg (fndA f (.slice vq vz vc)), .int .i64 fe]) ?_ rfl ⟨_, by rw [HRes.out], by rw [HRes.out]; exact HRd.out, ⟨below_setRow HXf.out.b (by omega) _⟩⟩
    exact results_row_tmp rfl _ _ (w.heap.size + 1 + 1) 42 (fndA f (.slice vq vz vc)) (0, 0) _ rfl (setRow_heap _ _ _ _ _ _ H4.out) Tryz.underlying42 rfl HI15.out rfl
  · have HRes : Hid (gg = (fnd0, ee)) := Lib.hid (by rw [HR.out, if_pos hee])
    have hne : (ee == 0) = false := by simpa using hee
    clear HB2 HK
    go_wp2_with (refine wpList_store_row (by rfl) _ _ _ (by rfl) _ (fndA fnd0 (.slice none 0 0)) (by rfl) (by rfl) _ _ HF2.out HI15.out (by rfl) (fnd_one _ _ _ _) ?_)
    refine bodyPost_ret (v := .tuple #[.agg (fndA fnd0 (.slice none 0 0)), .int .i64 ee]) ?_ rfl ⟨_, by rw [HRes.out], by rw [HRes.out]; exact .inl ⟨rfl, none, 0, rfl, by decide, fun _ => rfl⟩, ⟨below_setRow HX2.out.b (by omega) _⟩⟩
    exact results_row_tmp rfl _ _ (w.heap.size + 1 + 1) 42 (fndA fnd0 (.slice none 0 0)) (0, 0) _ rfl (setRow_heap _ _ _ _ _ _ HF2.out) Tryz.underlying42 rfl HI15.out rfl
end Go.Proofs.YthgecojbggoniaaGreatDoor
namespace Go.Proofs.YthgecojbggoniaaGreatDoor
open Go.RowKit
set_option maxRecDepth 100000
set_option linter.unusedVariables false
set_option linter.unusedSimpArgs false
set_option linter.unnecessarySimpa false

theorem mem_one {R : List Rw} {o : Opp} {x : Rw} (h : x ∈ one R o) : x ∈ R ∨ x = (o.key, o.val) := by
  have hb : ∀ {x : Rw}, x ∈ belowR o.key R → x ∈ R := fun h => (List.takeWhile_sublist _).subset h
  have hr : ∀ {x : Rw}, x ∈ restR o.key (aboveR o.key R) → x ∈ R := fun {x} h => by
    have ha : ∀ {x : Rw}, x ∈ aboveR o.key R → x ∈ R := fun h => (List.dropWhile_sublist _).subset h
    generalize aboveR o.key R = A at h ha
    cases A with
    | nil => cases h
    | cons y r =>
      simp only [restR] at h
      split at h
      · exact ha (List.mem_cons_of_mem _ h)
      · exact ha h
  unfold one at h
  split at h
  · unfold dropR at h
    rcases List.mem_append.1 h with h | h
    · exact .inl (hb h)
    · exact .inl (hr h)
  · unfold putR at h
    rcases List.mem_append.1 h with h | h
    · exact .inl (hb h)
    · rcases List.mem_cons.1 h with h | h
      · exact .inr h
      · exact .inl (hr h)
theorem mem_after {R : List Rw} {o : Opp} {x : Rw} (h : x ∈ afterR [o] R) : x ∈ R ∨ x = (o.key, o.val) := by
  unfold afterR at h
  split at h
  · exact mem_one h
  · exact .inl h
theorem size_ofL (l : List UInt8) : (ofL l).size = l.length := by simp [ofL, ByteArray.size]
theorem ittT_len (x : Itt) : (ittT x).length ≤ 1600 := by
  unfold ittT
  split
  · rename_i h
    rw [ittW_eq, List.length_append]
    have h1 := ittH_length x
    have h2 := chgsW_length x.l
    have h3 := ok16 h
    omega
  · simp
theorem verW_len (v : List UInt8) (is : Bool) : (versionW v is).length ≤ 200 := by
  unfold versionW
  split
  · split
    · have h3 := numW_length 1
      have h4 := strW_length v
      rename_i hv _
      rw [List.length_append]
      unfold okV at hv
      simp only [Bool.and_eq_true, decide_eq_true_eq] at hv
      omega
    · have h3 := numW_length 0
      omega
  · simp
theorem verK_len (l : List UInt8) (a b : Int) : (versionKeyR l a b).1.length ≤ 2100 := by
  unfold versionKeyR
  split
  · rename_i h2
    have := esc_len l
    have h3 := downL_length a b
    simp [keyL, h3]; omega
  · simp
theorem intK_len (l : List UInt8) : (intentKeyR l).1.length ≤ 2100 := by
  unfold intentKeyR
  split
  · rename_i h1
    have := esc_len l
    simp [keyL]; omega
  · simp
theorem thOp_sz {c : Th} {o : Opp} (hk : c.key.size ≤ 4398046511000) (hv : c.val.size ≤ 4398046511000) (h : thOp c = some o) : SzP (o.key, o.val) := by
  unfold thOp at h
  split at h
  · split at h
    · cases h
      have h1 := verK_len c.key.data.toList c.wall c.tick
      have h2 := verW_len (thVer c) (!c.gone)
      exact ⟨by simp only [size_ofL]; omega, by simp only [size_ofL]; omega⟩
    · cases h
  · split at h
    · split at h
      · cases h
        have h1 := intK_len c.key.data.toList
        have h2 := ittT_len c.it
        exact ⟨by simp only [size_ofL]; omega, by simp only [size_ofL]; omega⟩
      · cases h
    · cases h
      exact ⟨hk, hv⟩
def SzT (c : Th) : Prop := c.key.size ≤ 4398046511000 ∧ c.val.size ≤ 4398046511000
theorem tab_szs {l : List Th} (hl : ∀ c ∈ l, SzT c) : ∀ x ∈ tabR (opsT l), SzP x := by
  have gen : ∀ (ops : List Opp) (R : List Rw), (∀ o ∈ ops, SzP (o.key, o.val)) → (∀ x ∈ R, SzP x) → ∀ x ∈ ops.foldl (fun R o => afterR [o] R) R, SzP x := by
    intro ops
    induction ops with
    | nil => intro R _ h; exact h
    | cons o r ih =>
      intro R h1 h2
      rw [List.foldl_cons]
      refine ih _ (fun o' ho' => h1 o' (List.mem_cons_of_mem _ ho')) (fun x hx => ?_)
      rcases mem_after hx with h | h
      · exact h2 x h
      · rw [h]; exact h1 o List.mem_cons_self
  refine gen (opsT l) [] (fun o ho => ?_) (fun x hx => by cases hx)
  unfold opsT at ho
  obtain ⟨c, hc, ho⟩ := List.mem_filterMap.1 ho
  have := hl c (List.mem_of_mem_take hc)
  exact thOp_sz this.1 this.2 ho
theorem tab60 (l : List Th) : (tabR (opsT l)).length ≤ 60 := Nat.le_trans (tabR_len _) (opsK_len l 60)
end Go.Proofs.YthgecojbggoniaaGreatDoor
