/- Layer 7: slices.Sorted(maps.Keys(files)): the names, rising. -/
import Derived.Test.YtadbcikabpbogaaDskH
import Derived.Test.YtadbcikabpbogaaShelfB
import Derived.Sort.KeysCollected
import Derived.Shelf.Abstract
import Derived.Shelf.AbstractIn
namespace Go.Proofs.Ytadbcikabpbogaa
open Go.RowKit Go.Maps Go.Sort Go.Shelf
set_option maxRecDepth 100000
set_option linter.unusedVariables false
set_option linter.unusedSimpArgs false

theorem bb_not_lt : ∀ {a b : List UInt8}, bytesBefore a b = true → ¬ b < a
  | [], [], h => by simp [bytesBefore] at h
  | [], _ :: _, _ => by simp
  | _ :: _, [], h => by simp [bytesBefore] at h
  | a :: x, b :: y, h => by
    simp only [bytesBefore, Bool.or_eq_true, Bool.and_eq_true, decide_eq_true_eq, beq_iff_eq] at h
    rw [List.cons_lt_cons_iff]
    rintro (h1 | ⟨h1, h2⟩)
    · rcases h with h | ⟨h, _⟩
      · have e1 := UInt8.lt_iff_toNat_lt.1 h
        have e2 := UInt8.lt_iff_toNat_lt.1 h1
        omega
      · subst h
        have e2 := UInt8.lt_iff_toNat_lt.1 h1
        omega
    · rcases h with h | ⟨_, h⟩
      · subst h1
        have e1 := UInt8.lt_iff_toNat_lt.1 h
        omega
      · exact bb_not_lt h h2
theorem strKeys_mapD (L : List FB) : strKeys (mapD L) = L.map FB.nm := by
  simp only [mapD, strKeys, List.map_map]
  rfl
theorem rise_FB {L : List FB} {fs : List DF} (h : L.map FB.f = fs) (hr : Rise DF.nm fs) : Rise FB.nm L := by
  subst h
  unfold Rise at hr ⊢
  exact List.pairwise_map.1 hr
theorem sorted_names {L : List FB} (hr : Rise FB.nm L) {ss : List (List UInt8)} (hp : ss.Perm (strKeys (mapD L))) : ss.mergeSort (fun x y => decide (x ≤ y)) = L.map FB.nm := by
  have h1 : ss.mergeSort (fun x y => decide (x ≤ y)) = (strKeys (mapD L)).mergeSort (fun x y => decide (x ≤ y)) := mergeSort_of_perm hp
  rw [h1, strKeys_mapD]
  refine List.mergeSort_of_pairwise ?_
  refine List.pairwise_map.2 (hr.imp fun {a b} h => ?_)
  simp only [decide_eq_true_eq]
  exact bb_not_lt h

theorem keys_call (mb : Option Nat) (W : World) : Calls Try.prog 47 #[.map mb] W fun e w' => e = .returned (.func (.func 69) #[] #[.pointer (some ⟨W.heap.size, 0, none⟩)]) ∧ w' = W.alloc (.cells #[.map mb] 65) :=
  (callsIn_wide (n := 5)).1 (AnyZ.keys_in Try.keysA Fence.wide 5 trivial rfl mb W)
theorem sorts (m : Nat) : AnyZ.SortsIn Try.prog Try.sortedA_ren Fence.wide m :=
  ⟨fun blk off cap ss W hH hblk hsz => callsIn_wide.2 (AnyM.slices_Sort_string Try.sortA blk off cap ss W hH hblk hsz),
   fun p cap W => callsIn_wide.2 (AnyM.slices_Sort_string_none Try.sortA p cap W)⟩
set_option maxHeartbeats 1000000 in
theorem sorted_call {b nn : Nat} {L : List FB} {w : World} (hown : w.ownsMap Try.prog 9 ptrElem b nn (mapD L)) (hr : Rise FB.nm L) (hL : L.length ≤ 1000) :
    Calls Try.prog 46 #[.func (.func 69) #[] #[.pointer (some ⟨w.heap.size, 0, none⟩)]] (w.alloc (.cells #[.map (some b)] 65)) fun e w' =>
      ∃ v, e = .returned v ∧ w'.ownsRow w.heap.size 9 1 v L.length ((L.map FB.nm).map encStr) ∧ Gr w w' := by
  have hbl := hown.lt
  have hmax : Maps.size (mapD L) ≤ maxLen := by rw [mapD_size]; unfold maxLen; omega
  have hbytes : Maps.size (mapD L) * 16 ≤ 140737488355328 := by rw [mapD_size]; omega
  have hseq : SeqGives Fence.wide 2 Try.prog 69 #[.pointer (some ⟨w.heap.size, 0, none⟩)] encStr (fun ss => ss.Perm (strKeys (mapD L))) (Maps.size (mapD L)) (w.alloc (.cells #[.map (some b)] 65)) :=
    AnyZ.keys_gives (ρ := Try.keysA_ren) { Try.keysA with } Fence.wide _ trivial rfl (by omega) w.heap.size b nn (mapD L) _ (by simp) (by simp) (by
      obtain ⟨es, clock, hb, Ft, hs, hD⟩ := hown
      exact ⟨es, clock, (Below.heap_alloc _ _ b hbl).trans hb, Ft, hs, hD⟩)
  have cS := AnyZ.sorted_in Try.sortedA Fence.wide 5 trivial trivial trivial trivial rfl (by omega) (sorts _) (enters_of Try.func68 (by kernel_rfl) rfl) 69 #[.pointer (some ⟨w.heap.size, 0, none⟩)] trivial (enters_of Try.func69 (by kernel_rfl) rfl) _ _ hmax hbytes _ hseq
  change CallsIn _ _ Try.prog 46 _ _ _ at cS
  refine ((callsIn_wide (n := 5)).1 cS).mono ?_
  rintro e w' ⟨v, ss, rfl, hS, hrow, hnil, hb⟩
  refine ⟨v, rfl, ?_, ⟨((Below.refl _ w).alloc (Nat.le_refl _) _).trans (hb.mono (by simp))⟩⟩
  rw [sorted_names hr hS] at hrow
  have hlen : ss.length = L.length := by rw [hS.length_eq, strKeys_mapD, List.length_map]
  rw [hlen] at hrow
  exact ownsRow_mono hrow (by simp)
end Go.Proofs.Ytadbcikabpbogaa
