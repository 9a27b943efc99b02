/- Layer 9: lists on steps: ahead. -/
import Derived.Test.YtocijpeminghoaaGreatDoorSkpP
import Derived.Laws.Rows
import Derived.Laws.CopyOwn
namespace Go.Proofs.YtocijpeminghoaaGreatDoor
open Go.RowKit
set_option maxRecDepth 100000
set_option linter.unusedVariables false
set_option linter.unusedSimpArgs false
set_option linter.unnecessarySimpa false

abbrev klt (a b : ByteArray) : Bool := Op.bytesLess a.toList b.toList
theorem bl_irrefl : ∀ s : List UInt8, Op.bytesLess s s = false
  | [] => rfl
  | a :: r => by simp [Op.bytesLess, bl_irrefl r]
theorem bl_trans : ∀ {a b c : List UInt8}, Op.bytesLess a b = true → Op.bytesLess b c = true → Op.bytesLess a c = true
  | [], [], _, h, _ => by simp [Op.bytesLess] at h
  | [], _ :: _, [], _, h => by simp [Op.bytesLess] at h
  | [], _ :: _, _ :: _, _, _ => rfl
  | _ :: _, [], _, h, _ => by simp [Op.bytesLess] at h
  | _ :: _, _ :: _, [], _, h => by simp [Op.bytesLess] at h
  | a :: x, b :: y, c :: z, h1, h2 => by
    simp only [Op.bytesLess, Bool.or_eq_true, Bool.and_eq_true, decide_eq_true_eq, beq_iff_eq] at h1 h2 ⊢
    rcases h1 with h1 | ⟨rfl, h1⟩
    · rcases h2 with h2 | ⟨rfl, h2⟩
      · exact .inl (UInt8.lt_trans h1 h2)
      · exact .inl h1
    · rcases h2 with h2 | ⟨rfl, h2⟩
      · exact .inl h2
      · exact .inr ⟨rfl, bl_trans h1 h2⟩
theorem bl_total : ∀ a b : List UInt8, Op.bytesLess a b = false → Op.bytesLess b a = false → a = b
  | [], [], _, _ => rfl
  | [], _ :: _, h, _ => by simp [Op.bytesLess] at h
  | _ :: _, [], _, h => by simp [Op.bytesLess] at h
  | a :: x, b :: y, h1, h2 => by
    simp only [Op.bytesLess, Bool.or_eq_false_iff, Bool.and_eq_false_iff, decide_eq_false_iff_not, beq_eq_false_iff_ne] at h1 h2
    have hab : a = b := by
      rcases Nat.lt_trichotomy a.toNat b.toNat with h | h | h
      · exact absurd (UInt8.lt_iff_toNat_lt.2 h) h1.1
      · exact UInt8.toNat_inj.1 h
      · exact absurd (UInt8.lt_iff_toNat_lt.2 h) h2.1
    subst hab
    have e1 : Op.bytesLess x y = false := by rcases h1.2 with h | h; exact absurd rfl h; exact h
    have e2 : Op.bytesLess y x = false := by rcases h2.2 with h | h; exact absurd rfl h; exact h
    rw [bl_total x y e1 e2]
/-- nodes below a key, and the others -/
def below (k : ByteArray) (L : List Nd) : List Nd := L.takeWhile (fun n => klt n.key k)
def above (k : ByteArray) (L : List Nd) : List Nd := L.dropWhile (fun n => klt n.key k)
abbrev Rising (L : List Nd) : Prop := L.Pairwise (fun a b => klt a.key b.key = true)
theorem below_above (k : ByteArray) (L : List Nd) : below k L ++ above k L = L := List.takeWhile_append_dropWhile
theorem below_lt {k : ByteArray} {L : List Nd} {n : Nd} (h : n ∈ below k L) : klt n.key k = true := by
  unfold below at h
  exact (List.all_eq_true.1 (List.all_takeWhile (p := fun n : Nd => klt n.key k) (l := L))) n h
theorem above_ge {k : ByteArray} : ∀ {L : List Nd}, Rising L → ∀ n ∈ above k L, klt n.key k = false
  | [], _, n, h => by simp [above] at h
  | m :: r, hr, n, h => by
    have hc := List.pairwise_cons.1 hr
    unfold above at h
    rw [List.dropWhile_cons] at h
    split at h
    · exact above_ge hc.2 n h
    · rename_i hm
      rcases List.mem_cons.1 h with rfl | h
      · simpa using hm
      · cases e : klt n.key k with
        | false => rfl
        | true => exact absurd (bl_trans (hc.1 n h) e) hm
structure SkipAt (lb H : Nat) (S : Nat → Prop) (L : List Nd) (w : World) : Prop where
  list : w.heap[lb]? = some (.cells #[.pointer (some ⟨H, 0, none⟩), .int .i64 L.length] 118)
  chain : ChainF w (fun _ => []) (hd0 H :: L)
  rise : Rising L
  nd : ((hd0 H :: L).map (·.blk)).Nodup
  steps : ∀ n ∈ L, 1 ≤ n.steps ∧ n.steps ≤ 16
  sl : S lb
  sn : ∀ n ∈ hd0 H :: L, S n.blk
def isSkip (o : Obj) : Prop := ∃ cs fz, o = .cells cs 116 fz ∨ o = .cells cs 118 fz
/-- what is no list's block, or outside of S, stays -/
structure FrT (S : Nat → Prop) (w w' : World) : Prop where
  os : w'.os = w.os
  tape : w'.tape = w.tape
  output : w'.output = w.output
  size : w.heap.size ≤ w'.heap.size
  blk : ∀ k o, w.heap[k]? = some o → (S k → ¬ isSkip o) → w'.heap[k]? = some o
theorem FrT.refl (S : Nat → Prop) (w : World) : FrT S w w := ⟨rfl, rfl, rfl, Nat.le_refl _, fun _ _ h _ => h⟩
theorem FrT.gr {S : Nat → Prop} {a b : World} (h : Gr a b) : FrT S a b := ⟨h.b.os, h.b.tape, h.b.output, h.b.size, fun _ _ ho _ => h.blk ho⟩
theorem FrT.trans {S S' : Nat → Prop} {a b c : World} (h : FrT S a b) (k : FrT S' b c) (hS : ∀ k, S' k → k < a.heap.size → S k) : FrT S a c :=
  ⟨k.os.trans h.os, k.tape.trans h.tape, k.output.trans h.output, Nat.le_trans h.size k.size, fun i o ho hn => k.blk i o (h.blk i o ho hn) (fun hs => hn (hS i hs (Array.getElem?_eq_some_iff.1 ho).1))⟩
theorem SkipAt.gr {lb H : Nat} {S : Nat → Prop} {L : List Nd} {w w' : World} (h : SkipAt lb H S L w) (hg : Gr w w') : SkipAt lb H S L w' :=
  { h with list := hg.blk h.list, chain := chainF_blk h.chain (fun n hn o ho => hg.blk ho) }
theorem SkipAt.mono {lb H : Nat} {S S' : Nat → Prop} {L : List Nd} {w : World} (h : SkipAt lb H S L w) (hS : ∀ k, S k → S' k) : SkipAt lb H S' L w :=
  { h with sl := hS _ h.sl, sn := fun n hn => hS _ (h.sn n hn) }
/-- other lists' work, other blocks' turns -/
theorem SkipAt.fr {lb H : Nat} {S S' : Nat → Prop} {L : List Nd} {w w' : World} (h : SkipAt lb H S L w) (hf : FrT S' w w') (hd : ∀ k, S k → ¬ S' k) : SkipAt lb H S L w' :=
  { h with list := hf.blk _ _ h.list (fun hs => absurd hs (hd _ h.sl)), chain := chainF_blk h.chain (fun n hn o ho => hf.blk _ _ ho (fun hs => absurd hs (hd _ (h.sn n hn)))) }
theorem idx_split {l : List Nat} {A R : List Nat} {a : Nat} (e : l = A ++ a :: R) (hn : l.Nodup) : l.idxOf a = A.length := by
  subst e
  have hm : a ∉ A := fun h => (List.nodup_append.1 hn).2.2 a h a (by simp) rfl
  induction A with
  | nil => simp
  | cons x r ih =>
    have hx : x ≠ a := fun e => hm (by simp [e])
    have hb : (x == a) = false := by simpa using hx
    rw [List.cons_append, List.idxOf_cons, hb, cond_false, ih (List.nodup_cons.1 (by simpa using hn)).2 (fun h => hm (by simp [h]))]
    rfl
def blkOf : Value → Nat
  | .pointer (some a) => a.block
  | _ => 0
def pAt (h : Nd) (P : List Nd) (j : Nat) : Value := ptr (some (lastAt h P j))
def outA (h : Nd) (P : List Nd) (k : Nat) : Array Value := ((List.range 16).map (fun j => if k ≤ j then pAt h P j else .pointer none)).toArray
theorem none_skip {lb H : Nat} {n : Int} {w : World} (h : w.heap[lb]? = some (.cells #[.pointer (some ⟨H, 0, none⟩), .int .i64 n] 118)) :
    Calls Tryz.prog 63 #[.pointer (some ⟨lb, 0, none⟩)] w fun e w' => e = .returned (.bool false) ∧ w = w' := by
  obtain ⟨k_0, k_1, g_0, g_1, l_0⟩ := blk2 h
  clear h
  go_enter Tryz.func63, Tryz.ntmps63
  go_wp2
  go_ret
  exact ⟨rfl, rfl⟩

theorem heap_alloc1 {w : World} {j : Nat} {o o' : Obj} (h : w.heap[j]? = some o) : (w.alloc o').heap[j]? = some o := (Gr.refl _).alloc _ |>.blk h
theorem cell_of {w : World} {b i : Nat} {cs : Array Value} {t : TypeId} {v : Value} (h : w.heap[b]? = some (.cells cs t)) (hv : cs[i]? = some v) : w.cell? ⟨b, i, none⟩ = some v := by
  simp only [World.cell?, h, hv]
  simp
theorem outA_get {h : Nd} {P : List Nd} {k j : Nat} (hj : j < 16) : (outA h P k)[j]? = some (if k ≤ j then pAt h P j else .pointer none) := by
  simp [outA, hj]
theorem outA_one (h : Nd) (P : List Nd) : (outA h P 0).all (·.oneCell') = true := by
  rw [Array.all_eq_true_iff_forall_mem]
  intro x hx
  simp only [outA, List.mem_toArray, List.mem_map] at hx
  obtain ⟨j, _, rfl⟩ := hx
  simp [pAt, ptr, Value.oneCell']
theorem outA_set {h : Nd} {P : List Nd} {j : Nat} (hj : j < 16) : (outA h P (j + 1)).setIfInBounds j (pAt h P j) = outA h P j := by
  apply Array.ext_getElem?
  intro i
  rw [Array.getElem?_setIfInBounds]
  by_cases hi : i < 16
  · rw [outA_get hi, outA_get hi]
    by_cases hji : j = i
    · subst hji
      simp [outA, hj]
    · rw [if_neg hji]
      by_cases h1 : j + 1 ≤ i
      · rw [if_pos h1, if_pos (by omega)]
      · rw [if_neg h1, if_neg (by omega)]
  · rw [if_neg (by omega), Array.getElem?_eq_none (by simp [outA]; omega), Array.getElem?_eq_none (by simp [outA]; omega)]
theorem up_at {a : Nd} {R : List Nd} {j : Nat} (h : j < a.steps) : up a R j = ptr (nxt R j) := by unfold up; rw [if_pos h]
theorem chain_cell {w : World} {X : Nat → List Nd} {A R : List Nd} {a : Nd} (h : ChainF w X (A ++ a :: R)) {j : Nat} (hj : j < 16) (hs : j < a.steps) : w.cell? ⟨a.blk, 3 + j, none⟩ = some (ptr (nxt (R ++ X j) j)) := by
  have h1 := chainF_at h
  simp only [World.cell?, h1]
  rw [nodeA_get hj, up_at hs]
  simp
theorem chain_key {w : World} {X : Nat → List Nd} {A R : List Nd} {a : Nd} (h : ChainF w X (A ++ a :: R)) : w.cell? ⟨a.blk, 0, none⟩ = some (.string a.key) := by
  have h1 := chainF_at h
  simp only [World.cell?, h1]
  simp [nodeA]
theorem outA_cell {w : World} {b k j : Nat} {h : Nd} {P : List Nd} {t : TypeId} (hb : w.heap[b]? = some (.cells (outA h P k) t)) (hj : j < 16) : w.cell? ⟨b, j, none⟩ = some (if k ≤ j then pAt h P j else .pointer none) := by
  simp only [World.cell?, hb]
  rw [outA_get hj]
  simp
theorem nxt_le {R : List Nd} {i : Nat} (h : nxt R i = none) : ∀ n ∈ R, n.steps ≤ i := by
  intro n hn
  unfold nxt at h
  have := List.find?_eq_none.1 h n hn
  simp at this
  exact this
theorem nxt_mem {R : List Nd} {i : Nat} {n : Nd} (h : nxt R i = some n) : n ∈ R ∧ i < n.steps := by
  unfold nxt at h
  exact ⟨List.mem_of_find?_eq_some h, by simpa using List.find?_some h⟩
theorem tail_mem {h a m : Nd} {P A R : List Nd} (e : h :: P = A ++ a :: R) (hm : m ∈ R) : m ∈ P := by
  cases A with
  | nil =>
    simp only [List.nil_append, List.cons.injEq] at e
    rw [e.2]; exact hm
  | cons x r =>
    simp only [List.cons_append, List.cons.injEq] at e
    rw [e.2]; simp [hm]
set_option maxHeartbeats 4000000 in
theorem ahead_any {lb H : Nat} {S : Nat → Prop} {L : List Nd} {w : World} (h : SkipAt lb H S L w) (key : ByteArray) :
    Calls Tryz.prog 62 #[.pointer (some ⟨lb, 0, none⟩), .string key] w fun e w' => e = .returned (.agg (outA (hd0 H) (below key L) 0)) ∧ Gr w w' := by
  have HH := Lib.hid h
  obtain ⟨k_0, k_1, g_0, g_1, l_0⟩ := blk2 h.list
  clear h
  go_enter Tryz.func62, Tryz.ntmps62
  go_wp2
  go_loopw [6, 7] (fun av iv wr => ∃ (k : Nat) (A R : List Nd) (a : Nd), iv = .int .i64 ((k : Int) - 1) ∧ k ≤ 16 ∧ av = .pointer (some ⟨a.blk, 0, none⟩) ∧ Hid (hd0 H :: below key L = A ++ a :: R) ∧ k ≤ a.steps ∧ Gr w wr ∧ Hid (wr.heap[w.heap.size + 1]? = some (.cells (outA (hd0 H) (below key L) k) 113)) ∧ Hid (wr.heap[w.heap.size]? = some (.cells #[.pointer none, .pointer none, .pointer none, .pointer none, .pointer none, .pointer none, .pointer none, .pointer none, .pointer none, .pointer none, .pointer none, .pointer none, .pointer none, .pointer none, .pointer none, .pointer none] 113))) (fun _ iv _ => (intOf iv + 1).toNat)
  case atStart =>
    refine ⟨16, [], below key L, hd0 H, rfl, Nat.le_refl _, rfl, Lib.hid rfl, by simp [hd0], (by repeat (first | (with_reducible exact Gr.refl _) | (with_reducible assumption) | (with_reducible refine Gr.alloc ?_ _) | (with_reducible refine Gr.drew ?_) | (with_reducible refine Gr.drewN ?_ _) | (with_reducible refine Gr.trans ?_ (by assumption)) | (with_reducible refine Gr.setCell ?_ (by first | exact Nat.le_refl _ | omega | (simp; done) | (simp; omega)) _))), Lib.hid ?_, Lib.hid (heap_alloc1 (heap_newn rfl))⟩
    rw [show outA (hd0 H) (below key L) 16 = #[.pointer none, .pointer none, .pointer none, .pointer none, .pointer none, .pointer none, .pointer none, .pointer none, .pointer none, .pointer none, .pointer none, .pointer none, .pointer none, .pointer none, .pointer none, .pointer none] from rfl]
    exact heap_newn (by simp)
  case round =>
    obtain ⟨k, A, R, a, rfl, hk, rfl, HE, hka, hg, HB5, HB4⟩ := hrel
    have HG := Lib.hid hg
    have HC := Lib.hid (HH.out.gr hg).chain
    have HLE : Hid (hd0 H :: L = (hd0 H :: below key L) ++ above key L) := Lib.hid (by rw [List.cons_append, below_above])
    clear hg
    by_cases hk0 : 0 < k
    · obtain ⟨j, rfl⟩ : ∃ j, k = j + 1 := ⟨k - 1, by omega⟩
      have hj16 : j < 16 := by omega
      rw [show (((j + 1 : Nat) : Int) - 1) = (j : Int) by omega]
      have hge : (0 : Int) ≤ j := by omega
      go_wp2
      go_loopw [6] (fun av wr2 => ∃ (A R : List Nd) (a : Nd), av = .pointer (some ⟨a.blk, 0, none⟩) ∧ Hid (hd0 H :: below key L = A ++ a :: R) ∧ j + 1 ≤ a.steps ∧ wr2 = wr) (fun av _ => (hd0 H :: below key L).length - ((hd0 H :: below key L).map (·.blk)).idxOf (blkOf av))
      case atStart => exact ⟨A, R, a, rfl, HE, hka, rfl⟩
      case round =>
        obtain ⟨A2, R2, a2, rfl, HE2, hka2, rfl⟩ := hrel
        have hc : ChainF wr (fun _ => []) (A2 ++ a2 :: (R2 ++ above key L)) := by have := HC.out; rw [HLE.out, HE2.out] at this; simpa using this
        have c1 := chain_cell hc hj16 (by omega)
        have b1 := outA_cell HB5.out (j := j) hj16
        have b2 : wr.frozen? ⟨w.heap.size + 1, j, none⟩ = false := by simp [World.frozen?, HB5.out]
        simp only [List.append_nil] at c1
        have HCc := Lib.hid hc
        clear hc
        cases hn : nxt (R2 ++ above key L) j with
        | none =>
          rw [hn] at c1
          have HN := Lib.hid hn
          clear hn
          have HLa : Hid (lastAt (hd0 H) (below key L) j = a2) := Lib.hid (lastAt_of HE2.out (by omega) (fun n hn => nxt_le HN.out n (by simp [hn])))
          simp only [ptr] at c1
          go_wp2
          go_roundw
          case rel =>
            refine ⟨j, A2, R2, a2, rfl, by omega, rfl, HE2, by omega, HG.out.setCell (by simp) _, Lib.hid ?_, Lib.hid ?_⟩
            · rw [heap_set HB5.out, show Value.pointer (some ⟨a2.blk, 0, none⟩) = pAt (hd0 H) (below key L) j by unfold pAt ptr; rw [HLa.out], outA_set hj16]
            · exact heap_set_other HB4.out _ _ (by simp)
          case measure => first | (simp [intOf]; done) | (simp [intOf]; omega)
        | some n =>
          rw [hn] at c1
          have hmem := nxt_mem hn
          obtain ⟨B, C, e⟩ := List.append_of_mem hmem.1
          have c2 := chain_key (A := A2 ++ a2 :: B) (R := C) (a := n) (X := fun _ => []) (w := wr) (by have := HCc.out; rw [e] at this; simpa using this)
          have HN := Lib.hid hn
          have HE3 := Lib.hid e
          have HM := Lib.hid hmem
          simp only [ptr] at c1
          clear hn hmem e
          cases hlt : klt n.key key with
          | true =>
            have hin : n ∈ R2 := by
              rcases List.mem_append.1 HM.out.1 with h | h
              · exact h
              · have := above_ge HH.out.rise n h
                rw [hlt] at this
                cases this
            obtain ⟨B2, C2, e2⟩ := List.append_of_mem hin
            have HE4 := Lib.hid e2
            have HIN := Lib.hid hin
            clear hin e2
            go_wp2
            go_roundw
            case rel => exact ⟨A2 ++ a2 :: B2, C2, n, rfl, Lib.hid (by rw [HE2.out, HE4.out]; simp), HM.out.2, by first | rfl | trivial⟩
            case measure =>
              have hnd : ((hd0 H :: below key L).map (·.blk)).Nodup := by
                have := HH.out.nd
                rw [HLE.out, List.map_append] at this
                exact (List.nodup_append.1 this).1
              have i1 := idx_split (l := (hd0 H :: below key L).map (·.blk)) (A := A2.map (·.blk)) (a := a2.blk) (R := R2.map (·.blk)) (by rw [HE2.out]; simp) hnd
              have i2 := idx_split (l := (hd0 H :: below key L).map (·.blk)) (A := (A2 ++ a2 :: B2).map (·.blk)) (a := n.blk) (R := C2.map (·.blk)) (by rw [HE2.out, HE4.out]; simp) hnd
              have i3 : (hd0 H :: below key L).length = A2.length + 1 + B2.length + 1 + C2.length := by rw [HE2.out, HE4.out]; simp; omega
              simp only [blkOf]
              rw [i1, i2, i3]
              simp
              omega
          | false =>
            have HLa : Hid (lastAt (hd0 H) (below key L) j = a2) := Lib.hid (lastAt_of HE2.out (by omega) (fun m hm => by
              by_cases hs : j < m.steps
              · obtain ⟨m2, h1, h2, h3⟩ := nxt_some (A := R2) ⟨m, hm, hs⟩
                have h4 := HN.out
                rw [nxt_app, h1] at h4
                have h6 : m2 = n := by simpa using h4
                subst h6
                have : m2 ∈ below key L := tail_mem HE2.out h2
                rw [below_lt this] at hlt
                cases hlt
              · omega))
            go_wp2
            go_roundw
            case rel =>
              refine ⟨j, A2, R2, a2, rfl, by omega, rfl, HE2, by omega, HG.out.setCell (by simp) _, Lib.hid ?_, Lib.hid ?_⟩
              · rw [heap_set HB5.out, show Value.pointer (some ⟨a2.blk, 0, none⟩) = pAt (hd0 H) (below key L) j by unfold pAt ptr; rw [HLa.out], outA_set hj16]
              · exact heap_set_other HB4.out _ _ (by simp)
            case measure => first | (simp [intOf]; done) | (simp [intOf]; omega)
    · obtain rfl : k = 0 := by omega
      rw [show (((0 : Nat) : Int) - 1) = -1 from rfl]
      have hS : (wr.setRow w.heap.size (outA (hd0 H) (below key L) 0)).heap[w.heap.size]? = some (.cells (outA (hd0 H) (below key L) 0) 113) := setRow_heap _ _ _ _ _ _ HB4.out
      have HS := Lib.hid hS
      have HGf : Hid (Gr w (wr.setRow w.heap.size (outA (hd0 H) (below key L) 0))) := Lib.hid ⟨below_setRow HG.out.b (Nat.le_refl _) _⟩
      have HI : Hid ((Tryz.prog.info? 113).map (·.size) = some (outA (hd0 H) (below key L) 0).size) := Lib.hid (by rw [show (outA (hd0 H) (below key L) 0).size = 16 from rfl]; kernel_rfl)
      have HA1 : Hid ((outA (hd0 H) (below key L) 0).all (·.oneCell') = true) := Lib.hid (outA_one _ _)
      have HZ : Hid ((#[.pointer none, .pointer none, .pointer none, .pointer none, .pointer none, .pointer none, .pointer none, .pointer none, .pointer none, .pointer none, .pointer none, .pointer none, .pointer none, .pointer none, .pointer none, .pointer none] : Array Value).size = (outA (hd0 H) (below key L) 0).size) := Lib.hid rfl
      clear hS
      go_wp2_with (first
        | (refine wpList_load_row (by rfl) _ _ (by rfl) _ (by rfl) _ _ _ _ HB5.out Tryz.underlying113 rfl HI.out ?_)
        | (refine wpList_store_row (by rfl) _ _ _ (by rfl) _ _ (by rfl) (by rfl) _ _ HB4.out HI.out HZ.out HA1.out ?_))
      refine bodyPost_ret (v := .agg (outA (hd0 H) (below key L) 0)) ?_ rfl (And.intro rfl HGf.out)
      exact results_cell_row rfl _ _ _ _ _ _ _ rfl HS.out Tryz.underlying113 rfl HI.out
end Go.Proofs.YtocijpeminghoaaGreatDoor
