/- Layer 11: the statement on numbers, stamps, versions as texts. -/
import Derived.Test.YtpnojkgdjkncbaaDoorCelL
namespace Go.Proofs.YtpnojkgdjkncbaaDoor
open Go.RowKit
set_option maxRecDepth 100000
set_option linter.unusedVariables false
set_option linter.unusedSimpArgs false

set_option maxHeartbeats 4000000 in
theorem cellPlain_walk (n a b : Int) (s : ByteArray) (w : World) (hw : Sh w) :
    Calls Tryd.prog 3 #[.int .i64 n, .agg #[.int .i64 a, .int .i64 b], .string s] w fun e w' => e = .returned (.bool true) ∧ Gr w w' := by
  go_enter Tryd.func3, Tryd.ntmps3
  go_wp2_with (first
    | (go_at_call 11; refine (cellNumber_any _ _).mono ?_; rintro e w1 ⟨rfl, hg1⟩)
    | (go_at_call 12; refine (refNumber_any _ _).mono ?_; rintro e w2 ⟨rfl, hg2⟩; (have hX := hg2.blk (hg1.blk (heap_alloc_new _ _))); obtain ⟨k_0, k_1, g_0, g_1, l_0⟩ := blk2 hX; clear hX)
    | (go_at_call 13; refine (cellStamp_any _ _ _).mono ?_; rintro e w3 ⟨rfl, hg3⟩; (have hX := hg3.blk (hg2.blk (hg1.blk (heap_alloc_new _ _)))); obtain ⟨k_0, k_1, g_0, g_1, l_0⟩ := blk2 hX; clear hX)
    | (go_at_call 14; refine (refStampT_any _ _ _).mono ?_; rintro e w4 ⟨rfl, hg4⟩)
    | (go_at_call 15; refine (cellVersion_any _ _ _).mono ?_; rintro e w5 ⟨rfl, hg5⟩)
    | (go_at_call 16; refine (refVersion_any _ _ _).mono ?_; rintro e w6 ⟨rfl, hg6⟩)
    | (go_at_call 17; refine (awake_any _ (hw.gr (by repeat (first | (with_reducible exact Gr.refl _) | (with_reducible assumption) | (with_reducible refine Gr.alloc ?_ _) | (with_reducible refine Gr.drew ?_) | (with_reducible refine Gr.drewN ?_ _) | (with_reducible refine Gr.trans ?_ (by assumption)) | (with_reducible refine Gr.setCell ?_ (by first | exact Nat.le_refl _ | omega | (simp; done) | (simp; omega)) _))))).mono ?_; rintro e w7 ⟨rfl, hg7⟩))
  all_goals (go_ret; exact ⟨rfl, (by repeat (first | (with_reducible exact Gr.refl _) | (with_reducible assumption) | (with_reducible refine Gr.alloc ?_ _) | (with_reducible refine Gr.drew ?_) | (with_reducible refine Gr.drewN ?_ _) | (with_reducible refine Gr.trans ?_ (by assumption)) | (with_reducible refine Gr.setCell ?_ (by first | exact Nat.le_refl _ | omega | (simp; done) | (simp; omega)) _)))⟩)
end Go.Proofs.YtpnojkgdjkncbaaDoor
