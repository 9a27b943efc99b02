/- Layer 7: work. -/
import Derived.Test.YtadbcikabpbogaaDskD
namespace Go.Proofs.Ytadbcikabpbogaa
open Go.RowKit Go.Maps
set_option maxRecDepth 100000
set_option linter.unusedVariables false
set_option linter.unusedSimpArgs false

theorem DiskAt.keepAt {D : Nat} {S : Nat → Prop} {st : DS} {L : List FB} {M : Nat} {kv : Value} {w : World} (h : DiskAt D S st L M kv w) : KeepAt S w kv st.keep :=
  ⟨h.keep, fun g hg _ => .inr (h.keepS g hg).2, h.keepB⟩
def decL (l : Int) : Int := if 0 < l then l - 1 else l
theorem work_any {D : Nat} {S : Nat → Prop} {st : DS} {L : List FB} {M : Nat} {kv : Value} {w : World} (h : DiskAt D S st L M kv w) (k : FuncId) (caps : Array Value) (hcf : ∀ w, (callFunc k caps).run Try.prog w = .ok (.enter k caps) w) (Post : World → Prop)
    (hdo : st.left ≠ 0 → ∀ w1, DiskAt D S { st with left := decL st.left } L M kv w1 → (∀ j o, j ≠ D → w.heap[j]? = some o → w1.heap[j]? = some o) → Fr S w w1 → Calls Try.prog k caps w1 fun e w' => e = .returned (.tuple #[]) ∧ Post w') :
    Calls Try.prog 37 #[.pointer (some ⟨D, 0, none⟩), .func (.func k) #[] caps] w fun e w' =>
      (st.left = 0 ∧ e = .returned (.int .i64 71) ∧ (∃ L', DiskAt D S (st.crash st.keep) L' M kv w') ∧ Fr S w w') ∨ (st.left ≠ 0 ∧ e = .returned (.int .i64 0) ∧ Post w') := by
  obtain ⟨kq, kc, rfl⟩ := h.keep.form
  have HCr := Lib.hid (crash_any h h.keepAt)
  have HDo := Lib.hid hdo
  have H := Lib.hid h
  obtain ⟨hl1, hl2⟩ := h.left
  have hc := h.cell
  clear h hdo
  by_cases h0 : st.left = 0
  · rw [h0] at hc
    obtain ⟨k_0, k_1, k_2, k_3, g_0, g_1, g_2, g_3, l_0⟩ := blk4 hc
    have HZ := Lib.hid h0
    clear hc h0 hl1 hl2
    go_enter Try.func37, Try.ntmps37
    go_wp2_with fail
    refine HCr.out.mono ?_
    rintro e w1 ⟨rfl, hx, hf⟩
    go_wp2
    go_ret
    exact .inl ⟨HZ.out, rfl, hx, hf⟩
  · have HZ := Lib.hid h0
    have hz : (st.left == 0) = false := by simpa using h0
    obtain ⟨k_0, k_1, k_2, k_3, g_0, g_1, g_2, g_3, l_0⟩ := blk4 hc
    by_cases hp : 0 < st.left
    · have HP : Hid (decL st.left = st.left - 1) := Lib.hid (by unfold decL; rw [if_pos hp])
      have HC := Lib.hid (heap_set hc 2 (.int .i64 (st.left - 1)))
      have HD1 := Lib.hid (H.out.setD st.dead (st.left - 1) (by omega) (by simpa using HC.out) (fun j o hj ho => heap_set_other ho ⟨D, 2, none⟩ (.int .i64 (st.left - 1)) (fun e => hj e.symm)))
      have HF1 : Hid (Fr S w (w.setCell ⟨D, 2, none⟩ (.int .i64 (st.left - 1)))) := Lib.hid (Fr.set w H.out.sD _)
      have HK := Lib.hid (HDo.out h0 _ (by rw [HP.out]; exact HD1.out) (fun j o hj ho => heap_set_other ho ⟨D, 2, none⟩ (.int .i64 (st.left - 1)) (fun e => hj e.symm)) HF1.out)
      clear hc h0 HD1 HDo HC
      go_enter Try.func37, Try.ntmps37
      go_wp2_with fail
      refine HK.out.mono ?_
      rintro e w1 ⟨rfl, hx⟩
      go_wp2
      go_ret
      exact .inr ⟨HZ.out, rfl, hx⟩
    · have HP : Hid (decL st.left = st.left) := Lib.hid (by unfold decL; rw [if_neg hp])
      have HK := Lib.hid (HDo.out h0 w (by rw [HP.out]; exact H.out) (fun j o hj ho => ho) (Fr.refl _ _))
      clear hc h0 HDo
      go_enter Try.func37, Try.ntmps37
      go_wp2_with fail
      refine HK.out.mono ?_
      rintro e w1 ⟨rfl, hx⟩
      go_wp2
      go_ret
      exact .inr ⟨HZ.out, rfl, hx⟩
theorem cf_test (a b : Value) : ∀ w, (callFunc 41 #[a]).run Try.prog w = .ok (.enter 41 #[a]) w := fun w => by kernel_rfl
end Go.Proofs.Ytadbcikabpbogaa
