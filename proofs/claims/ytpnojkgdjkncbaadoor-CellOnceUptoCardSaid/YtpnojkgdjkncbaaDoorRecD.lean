/- Layer 11: a record in memory of its own. -/
import Derived.Test.YtpnojkgdjkncbaaDoorRecC
import Derived.Test.YtpnojkgdjkncbaaDoorCelW
namespace Go.Proofs.YtpnojkgdjkncbaaDoor
open Go.RowKit
set_option maxRecDepth 100000
set_option linter.unusedVariables false
set_option linter.unusedSimpArgs false

theorem elWrt : ElTy 45 92 2 (.agg #[.string ⟨#[]⟩, .int .i64 0]) 24 := ⟨Tryd.underlying45, by kernel_rfl, rfl, by decide⟩
theorem encWrt : Enc wrtCells 2 := ⟨fun _ => rfl, fun a u hu => by simp [wrtCells] at hu; rcases hu with rfl | rfl <;> rfl⟩

set_option maxHeartbeats 1000000 in
theorem copyRecord_any {w : World} (x : Rec) {vx : Value} (hx : RdW w vx x.l) (hlen : x.l.length * 24 ≤ 140737488355328) :
    Calls Tryd.prog 29 #[.agg #[.int .i64 x.id, .int .i64 x.epoch, .int .i64 x.status, .int .i64 x.prio, .string x.anchor, .int .i64 x.sw, .int .i64 x.sl, .int .i64 x.bw, .int .i64 x.bl, vx]] w fun e w' => ∃ v, e = .returned (.agg #[.int .i64 x.id, .int .i64 x.epoch, .int .i64 x.status, .int .i64 x.prio, .string x.anchor, .int .i64 x.sw, .int .i64 x.sl, .int .i64 x.bw, .int .i64 x.bl, v]) ∧ RdW w' v x.l ∧ Gr w w' := by
  have hb1 := heap_alloc_new w (.cells #[.int .i64 x.id, .int .i64 x.epoch, .int .i64 x.status, .int .i64 x.prio, .string x.anchor, .int .i64 x.sw, .int .i64 x.sl, .int .i64 x.bw, .int .i64 x.bl, vx] 47)
  have HB1 := Lib.hid hb1
  obtain ⟨ka_0, ka_1, ka_2, ka_3, ka_4, ka_5, ka_6, ka_7, ka_8, ka_9, ga_0, ga_1, ga_2, ga_3, ga_4, ga_5, ga_6, ga_7, ga_8, ga_9, la_0⟩ := blk10 hb1
  clear hb1
  have HX := Lib.hid hx
  clear hx
  go_enter Tryd.func29, Tryd.ntmps29
  go_wp2_with (at_builtin; go_loud (refine app_gen elWrt encWrt (N := w.heap.size) (by simp; omega) (by rfl) _ _ (by rfl) [] x.l (by rfl) (by rfl) (OwnG.nil _ _) (RdE.gr (by repeat (first | (with_reducible exact Gr.refl _) | (with_reducible assumption) | (with_reducible refine Gr.alloc ?_ _) | (with_reducible refine Gr.drew ?_) | (with_reducible refine Gr.drewN ?_ _) | (with_reducible refine Gr.trans ?_ (by assumption)) | (with_reducible refine Gr.setCell ?_ (by first | exact Nat.le_refl _ | omega | (simp; done) | (simp; omega)) _))) HX.out) (by simp; omega) (by simp; omega) ?_); intro v1 w1 hown1 hgb1; have hg1 := (Gr.refl _).grown hgb1 (fun k hk => by simp [Value.ownBlock] at hk); obtain ⟨q1, c1, rfl⟩ := hown1.slice; (have hb1n := hg1.blk (heap_alloc_mono HB1.out _)); (have hb2n : w1.heap[w.heap.size + 1]? = some (.cells #[.int .i64 0, .int .i64 0, .int .i64 0, .int .i64 0, .string ⟨#[]⟩, .int .i64 0, .int .i64 0, .int .i64 0, .int .i64 0, .slice none 0 0] 47) := hg1.blk (by repeat (first | (with_reducible assumption) | (with_reducible exact heap_alloc_new _ _) | (with_reducible refine heap_drew ?_) | (with_reducible refine heap_newn ?_; (first | rfl | (simp; done))) | (with_reducible refine heap_alloc_mono ?_ _)))); obtain ⟨kc_0, kc_1, kc_2, kc_3, kc_4, kc_5, kc_6, kc_7, kc_8, kc_9, gc_0, gc_1, gc_2, gc_3, gc_4, gc_5, gc_6, gc_7, gc_8, gc_9, lc_0⟩ := blk10 hb1n; obtain ⟨kd_0, kd_1, kd_2, kd_3, kd_4, kd_5, kd_6, kd_7, kd_8, kd_9, gd_0, gd_1, gd_2, gd_3, gd_4, gd_5, gd_6, gd_7, gd_8, gd_9, ld_0⟩ := blk10 hb2n)
  obtain ⟨q_0, q_1, q_2, q_3, q_4, q_5, q_6, q_7, q_8, q_9, _, _, _, _, _, _, _, _, _, _, _⟩ := blk10 (by simpa using heap_set (heap_set (heap_set (heap_set (heap_set (heap_set (heap_set (heap_set (heap_set (heap_set (heap_set_other hb2n ⟨w.heap.size, 9, none⟩ (.slice q1 x.l.length c1) (by simp)) 0 (.int .i64 x.id)) 1 (.int .i64 x.epoch)) 2 (.int .i64 x.status)) 3 (.int .i64 x.prio)) 4 (.string x.anchor)) 5 (.int .i64 x.sw)) 6 (.int .i64 x.sl)) 7 (.int .i64 x.bw)) 8 (.int .i64 x.bl)) 9 (.slice q1 x.l.length c1))
  refine bodyPost_ret (v := .agg #[.int .i64 x.id, .int .i64 x.epoch, .int .i64 x.status, .int .i64 x.prio, .string x.anchor, .int .i64 x.sw, .int .i64 x.sl, .int .i64 x.bw, .int .i64 x.bl, .slice q1 x.l.length c1]) (by simp [results, Tryd.results29, go_sem, q_0, q_1, q_2, q_3, q_4, q_5, q_6, q_7, q_8, q_9]) rfl ⟨_, rfl, ?_, (by repeat (first | (with_reducible exact Gr.refl _) | (with_reducible assumption) | (with_reducible refine Gr.alloc ?_ _) | (with_reducible refine Gr.drew ?_) | (with_reducible refine Gr.drewN ?_ _) | (with_reducible refine Gr.trans ?_ (by assumption)) | (with_reducible refine Gr.setCell ?_ (by first | exact Nat.le_refl _ | omega | (simp; done) | (simp; omega)) _)))⟩
  have hown2 : OwnG 92 2 wrtCells w1 w.heap.size (.slice q1 x.l.length c1) x.l := by simpa using hown1
  refine OwnG.rd encWrt (by decide) (OwnG.kept hown2 (fun g c f hgf => ?_))
  have n1 : w.heap.size ≠ g := by rintro rfl; rw [hb1n] at hgf; simp at hgf
  have n2 : w.heap.size + 1 ≠ g := by rintro rfl; rw [hb2n] at hgf; simp at hgf
  exact heap_set_other (heap_set_other (heap_set_other (heap_set_other (heap_set_other (heap_set_other (heap_set_other (heap_set_other (heap_set_other (heap_set_other (heap_set_other hgf ⟨w.heap.size, 9, none⟩ (.slice q1 x.l.length c1) n1) ⟨w.heap.size + 1, 0, none⟩ (.int .i64 x.id) n2) ⟨w.heap.size + 1, 1, none⟩ (.int .i64 x.epoch) n2) ⟨w.heap.size + 1, 2, none⟩ (.int .i64 x.status) n2) ⟨w.heap.size + 1, 3, none⟩ (.int .i64 x.prio) n2) ⟨w.heap.size + 1, 4, none⟩ (.string x.anchor) n2) ⟨w.heap.size + 1, 5, none⟩ (.int .i64 x.sw) n2) ⟨w.heap.size + 1, 6, none⟩ (.int .i64 x.sl) n2) ⟨w.heap.size + 1, 7, none⟩ (.int .i64 x.bw) n2) ⟨w.heap.size + 1, 8, none⟩ (.int .i64 x.bl) n2) ⟨w.heap.size + 1, 9, none⟩ (.slice q1 x.l.length c1) n2
end Go.Proofs.YtpnojkgdjkncbaaDoor
