/- Layer 7: disks that are none. -/
import Derived.Test.YtadbcikabpbogaaDskAB
namespace Go.Proofs.Ytadbcikabpbogaa
open Go.RowKit Go.Maps
set_option maxRecDepth 100000
set_option linter.unusedVariables false
set_option linter.unusedSimpArgs false

/-- a disk that is none: nil, or one without a map -/
def NoD (w : World) (v : Value) : Prop := v = .pointer none ∨ ∃ D, v = .pointer (some ⟨D, 0, none⟩) ∧ w.heap[D]? = some (.cells #[.map none, .bool false, .int .i64 0, .slice none 0 0] 67)
theorem NoD.gr {a b : World} {v : Value} (h : NoD a v) (hg : Gr a b) : NoD b v := by
  rcases h with h | ⟨D, h1, h2⟩
  · exact .inl h
  · exact .inr ⟨D, h1, hg.blk h2⟩
theorem eqlNone (w : World) : (binOp .eql 65 (.map none) (.map none)).run Try.prog w = .ok (.bool true) w := by kernel_rfl
theorem none_no {w : World} {v : Value} (h : NoD w v) : Calls Try.prog 45 #[v] w fun e w' => e = .returned (.bool true) ∧ w = w' := by
  rcases h with rfl | ⟨D, rfl, h⟩
  · go_enter Try.func45, Try.ntmps45
    go_wp2
    go_ret
    exact ⟨rfl, rfl⟩
  · obtain ⟨k_0, k_1, k_2, k_3, g_0, g_1, g_2, g_3, l_0⟩ := blk4 h
    clear h
    have hq := eqlNone
    go_enter Try.func45, Try.ntmps45
    go_wp2
    go_ret
    exact ⟨rfl, rfl⟩
theorem ask_no {w : World} {v : Value} (h : NoD w v) : Calls Try.prog 35 #[v] w fun e w' => e = .returned (.int .i64 1) ∧ w = w' := by
  have H := Lib.hid (none_no h)
  clear h
  go_enter Try.func35, Try.ntmps35
  go_wp2_with (go_at_call 45; refine H.out.mono ?_; rintro e w1 ⟨rfl, rfl⟩)
  go_ret
  exact ⟨rfl, rfl⟩
theorem find_no {w : World} {v : Value} (h : NoD w v) (s : ByteArray) : Calls Try.prog 40 #[v, .string s] w fun e w' => e = .returned (.tuple #[.pointer none, .int .i64 1]) ∧ w = w' := by
  have H := Lib.hid (ask_no h)
  clear h
  go_enter Try.func40, Try.ntmps40
  go_wp2_with (go_at_call 35; refine H.out.mono ?_; rintro e w1 ⟨rfl, rfl⟩)
  go_ret2
  exact ⟨rfl, rfl⟩
section
variable {w : World} {v : Value} (h : NoD w v)
include h
theorem append_no (s : ByteArray) : Calls Try.prog 12 #[v, .string s, .slice none 0 0] w fun e w' => e = .returned (.int .i64 1) ∧ Gr w w' := by
  have H0 := Lib.hid (fun W (hg : Gr w W) => none_no (h.gr hg))
  have H1 := Lib.hid (fun W (hg : Gr w W) => ask_no (h.gr hg))
  have H2 := Lib.hid (fun W (hg : Gr w W) => find_no (h.gr hg))
  rcases h with rfl | ⟨D, rfl, h⟩
  all_goals
    go_enter Try.func12, Try.ntmps12
    go_wp2_with (first | (go_at_call 45; refine (H0.out _ (by first | exact Gr.refl _ | exact (Gr.refl _).alloc _ | exact ((Gr.refl _).alloc _).alloc _ | exact (((Gr.refl _).alloc _).alloc _).alloc _)).mono ?_; rintro e w1 ⟨rfl, rfl⟩) | (go_at_call 35; refine (H1.out _ (by first | exact Gr.refl _ | exact (Gr.refl _).alloc _ | exact ((Gr.refl _).alloc _).alloc _ | exact (((Gr.refl _).alloc _).alloc _).alloc _)).mono ?_; rintro e w1 ⟨rfl, rfl⟩) | (go_at_call 40; refine (H2.out _ (by first | exact Gr.refl _ | exact (Gr.refl _).alloc _ | exact ((Gr.refl _).alloc _).alloc _ | exact (((Gr.refl _).alloc _).alloc _).alloc _) _).mono ?_; rintro e w1 ⟨rfl, rfl⟩))
    go_ret
    exact ⟨rfl, by first | exact Gr.refl _ | exact (Gr.refl _).alloc _ | exact ((Gr.refl _).alloc _).alloc _ | exact (((Gr.refl _).alloc _).alloc _).alloc _ | exact ((((Gr.refl _).alloc _).alloc _).alloc _).alloc _ | exact (((((Gr.refl _).alloc _).alloc _).alloc _).alloc _).alloc _⟩
theorem sync_no (s : ByteArray) : Calls Try.prog 14 #[v, .string s] w fun e w' => e = .returned (.int .i64 1) ∧ Gr w w' := by
  have H0 := Lib.hid (fun W (hg : Gr w W) => none_no (h.gr hg))
  have H1 := Lib.hid (fun W (hg : Gr w W) => ask_no (h.gr hg))
  have H2 := Lib.hid (fun W (hg : Gr w W) => find_no (h.gr hg))
  rcases h with rfl | ⟨D, rfl, h⟩
  all_goals
    go_enter Try.func14, Try.ntmps14
    go_wp2_with (first | (go_at_call 45; refine (H0.out _ (by first | exact Gr.refl _ | exact (Gr.refl _).alloc _ | exact ((Gr.refl _).alloc _).alloc _ | exact (((Gr.refl _).alloc _).alloc _).alloc _)).mono ?_; rintro e w1 ⟨rfl, rfl⟩) | (go_at_call 35; refine (H1.out _ (by first | exact Gr.refl _ | exact (Gr.refl _).alloc _ | exact ((Gr.refl _).alloc _).alloc _ | exact (((Gr.refl _).alloc _).alloc _).alloc _)).mono ?_; rintro e w1 ⟨rfl, rfl⟩) | (go_at_call 40; refine (H2.out _ (by first | exact Gr.refl _ | exact (Gr.refl _).alloc _ | exact ((Gr.refl _).alloc _).alloc _ | exact (((Gr.refl _).alloc _).alloc _).alloc _) _).mono ?_; rintro e w1 ⟨rfl, rfl⟩))
    go_ret
    exact ⟨rfl, by first | exact Gr.refl _ | exact (Gr.refl _).alloc _ | exact ((Gr.refl _).alloc _).alloc _ | exact (((Gr.refl _).alloc _).alloc _).alloc _ | exact ((((Gr.refl _).alloc _).alloc _).alloc _).alloc _ | exact (((((Gr.refl _).alloc _).alloc _).alloc _).alloc _).alloc _⟩
theorem cut_no (s : ByteArray) (n : Int) : Calls Try.prog 15 #[v, .string s, .int .i64 n] w fun e w' => e = .returned (.int .i64 1) ∧ Gr w w' := by
  have H0 := Lib.hid (fun W (hg : Gr w W) => none_no (h.gr hg))
  have H1 := Lib.hid (fun W (hg : Gr w W) => ask_no (h.gr hg))
  have H2 := Lib.hid (fun W (hg : Gr w W) => find_no (h.gr hg))
  rcases h with rfl | ⟨D, rfl, h⟩
  all_goals
    go_enter Try.func15, Try.ntmps15
    go_wp2_with (first | (go_at_call 45; refine (H0.out _ (by first | exact Gr.refl _ | exact (Gr.refl _).alloc _ | exact ((Gr.refl _).alloc _).alloc _ | exact (((Gr.refl _).alloc _).alloc _).alloc _)).mono ?_; rintro e w1 ⟨rfl, rfl⟩) | (go_at_call 35; refine (H1.out _ (by first | exact Gr.refl _ | exact (Gr.refl _).alloc _ | exact ((Gr.refl _).alloc _).alloc _ | exact (((Gr.refl _).alloc _).alloc _).alloc _)).mono ?_; rintro e w1 ⟨rfl, rfl⟩) | (go_at_call 40; refine (H2.out _ (by first | exact Gr.refl _ | exact (Gr.refl _).alloc _ | exact ((Gr.refl _).alloc _).alloc _ | exact (((Gr.refl _).alloc _).alloc _).alloc _) _).mono ?_; rintro e w1 ⟨rfl, rfl⟩))
    go_ret
    exact ⟨rfl, by first | exact Gr.refl _ | exact (Gr.refl _).alloc _ | exact ((Gr.refl _).alloc _).alloc _ | exact (((Gr.refl _).alloc _).alloc _).alloc _ | exact ((((Gr.refl _).alloc _).alloc _).alloc _).alloc _ | exact (((((Gr.refl _).alloc _).alloc _).alloc _).alloc _).alloc _⟩
theorem rename_no (s t : ByteArray) : Calls Try.prog 16 #[v, .string s, .string t] w fun e w' => e = .returned (.int .i64 1) ∧ Gr w w' := by
  have H0 := Lib.hid (fun W (hg : Gr w W) => none_no (h.gr hg))
  have H1 := Lib.hid (fun W (hg : Gr w W) => ask_no (h.gr hg))
  have H2 := Lib.hid (fun W (hg : Gr w W) => find_no (h.gr hg))
  rcases h with rfl | ⟨D, rfl, h⟩
  all_goals
    go_enter Try.func16, Try.ntmps16
    go_wp2_with (first | (go_at_call 45; refine (H0.out _ (by first | exact Gr.refl _ | exact (Gr.refl _).alloc _ | exact ((Gr.refl _).alloc _).alloc _ | exact (((Gr.refl _).alloc _).alloc _).alloc _)).mono ?_; rintro e w1 ⟨rfl, rfl⟩) | (go_at_call 35; refine (H1.out _ (by first | exact Gr.refl _ | exact (Gr.refl _).alloc _ | exact ((Gr.refl _).alloc _).alloc _ | exact (((Gr.refl _).alloc _).alloc _).alloc _)).mono ?_; rintro e w1 ⟨rfl, rfl⟩) | (go_at_call 40; refine (H2.out _ (by first | exact Gr.refl _ | exact (Gr.refl _).alloc _ | exact ((Gr.refl _).alloc _).alloc _ | exact (((Gr.refl _).alloc _).alloc _).alloc _) _).mono ?_; rintro e w1 ⟨rfl, rfl⟩))
    go_ret
    exact ⟨rfl, by first | exact Gr.refl _ | exact (Gr.refl _).alloc _ | exact ((Gr.refl _).alloc _).alloc _ | exact (((Gr.refl _).alloc _).alloc _).alloc _ | exact ((((Gr.refl _).alloc _).alloc _).alloc _).alloc _ | exact (((((Gr.refl _).alloc _).alloc _).alloc _).alloc _).alloc _⟩
theorem remove_no (s : ByteArray) : Calls Try.prog 33 #[v, .string s] w fun e w' => e = .returned (.int .i64 1) ∧ Gr w w' := by
  have H0 := Lib.hid (fun W (hg : Gr w W) => none_no (h.gr hg))
  have H1 := Lib.hid (fun W (hg : Gr w W) => ask_no (h.gr hg))
  have H2 := Lib.hid (fun W (hg : Gr w W) => find_no (h.gr hg))
  rcases h with rfl | ⟨D, rfl, h⟩
  all_goals
    go_enter Try.func33, Try.ntmps33
    go_wp2_with (first | (go_at_call 45; refine (H0.out _ (by first | exact Gr.refl _ | exact (Gr.refl _).alloc _ | exact ((Gr.refl _).alloc _).alloc _ | exact (((Gr.refl _).alloc _).alloc _).alloc _)).mono ?_; rintro e w1 ⟨rfl, rfl⟩) | (go_at_call 35; refine (H1.out _ (by first | exact Gr.refl _ | exact (Gr.refl _).alloc _ | exact ((Gr.refl _).alloc _).alloc _ | exact (((Gr.refl _).alloc _).alloc _).alloc _)).mono ?_; rintro e w1 ⟨rfl, rfl⟩) | (go_at_call 40; refine (H2.out _ (by first | exact Gr.refl _ | exact (Gr.refl _).alloc _ | exact ((Gr.refl _).alloc _).alloc _ | exact (((Gr.refl _).alloc _).alloc _).alloc _) _).mono ?_; rintro e w1 ⟨rfl, rfl⟩))
    go_ret
    exact ⟨rfl, by first | exact Gr.refl _ | exact (Gr.refl _).alloc _ | exact ((Gr.refl _).alloc _).alloc _ | exact (((Gr.refl _).alloc _).alloc _).alloc _ | exact ((((Gr.refl _).alloc _).alloc _).alloc _).alloc _ | exact (((((Gr.refl _).alloc _).alloc _).alloc _).alloc _).alloc _⟩
theorem turn_no (s : ByteArray) (n b : Int) : Calls Try.prog 34 #[v, .string s, .int .i64 n, .int .i64 b] w fun e w' => e = .returned (.int .i64 1) ∧ Gr w w' := by
  have H0 := Lib.hid (fun W (hg : Gr w W) => none_no (h.gr hg))
  have H1 := Lib.hid (fun W (hg : Gr w W) => ask_no (h.gr hg))
  have H2 := Lib.hid (fun W (hg : Gr w W) => find_no (h.gr hg))
  rcases h with rfl | ⟨D, rfl, h⟩
  all_goals
    go_enter Try.func34, Try.ntmps34
    go_wp2_with (first | (go_at_call 45; refine (H0.out _ (by first | exact Gr.refl _ | exact (Gr.refl _).alloc _ | exact ((Gr.refl _).alloc _).alloc _ | exact (((Gr.refl _).alloc _).alloc _).alloc _)).mono ?_; rintro e w1 ⟨rfl, rfl⟩) | (go_at_call 35; refine (H1.out _ (by first | exact Gr.refl _ | exact (Gr.refl _).alloc _ | exact ((Gr.refl _).alloc _).alloc _ | exact (((Gr.refl _).alloc _).alloc _).alloc _)).mono ?_; rintro e w1 ⟨rfl, rfl⟩) | (go_at_call 40; refine (H2.out _ (by first | exact Gr.refl _ | exact (Gr.refl _).alloc _ | exact ((Gr.refl _).alloc _).alloc _ | exact (((Gr.refl _).alloc _).alloc _).alloc _) _).mono ?_; rintro e w1 ⟨rfl, rfl⟩))
    go_ret
    exact ⟨rfl, by first | exact Gr.refl _ | exact (Gr.refl _).alloc _ | exact ((Gr.refl _).alloc _).alloc _ | exact (((Gr.refl _).alloc _).alloc _).alloc _ | exact ((((Gr.refl _).alloc _).alloc _).alloc _).alloc _ | exact (((((Gr.refl _).alloc _).alloc _).alloc _).alloc _).alloc _⟩
theorem crash_no (kv : Value) : Calls Try.prog 23 #[v, kv] w fun e w' => e = .returned (.tuple #[]) ∧ Gr w w' := by
  have H0 := Lib.hid (fun W (hg : Gr w W) => none_no (h.gr hg))
  have H1 := Lib.hid (fun W (hg : Gr w W) => ask_no (h.gr hg))
  have H2 := Lib.hid (fun W (hg : Gr w W) => find_no (h.gr hg))
  rcases h with rfl | ⟨D, rfl, h⟩
  all_goals
    go_enter Try.func23, Try.ntmps23
    go_wp2_with (first | (go_at_call 45; refine (H0.out _ (by first | exact Gr.refl _ | exact (Gr.refl _).alloc _ | exact ((Gr.refl _).alloc _).alloc _ | exact (((Gr.refl _).alloc _).alloc _).alloc _)).mono ?_; rintro e w1 ⟨rfl, rfl⟩) | (go_at_call 35; refine (H1.out _ (by first | exact Gr.refl _ | exact (Gr.refl _).alloc _ | exact ((Gr.refl _).alloc _).alloc _ | exact (((Gr.refl _).alloc _).alloc _).alloc _)).mono ?_; rintro e w1 ⟨rfl, rfl⟩) | (go_at_call 40; refine (H2.out _ (by first | exact Gr.refl _ | exact (Gr.refl _).alloc _ | exact ((Gr.refl _).alloc _).alloc _ | exact (((Gr.refl _).alloc _).alloc _).alloc _) _).mono ?_; rintro e w1 ⟨rfl, rfl⟩))
    refine bodyPost_ret (results_none rfl _ _ _) rfl ?_
    exact ⟨rfl, by first | exact Gr.refl _ | exact (Gr.refl _).alloc _ | exact ((Gr.refl _).alloc _).alloc _ | exact (((Gr.refl _).alloc _).alloc _).alloc _ | exact ((((Gr.refl _).alloc _).alloc _).alloc _).alloc _ | exact (((((Gr.refl _).alloc _).alloc _).alloc _).alloc _).alloc _⟩
theorem fail_no (n : Int) (kv : Value) : Calls Try.prog 13 #[v, .int .i64 n, kv] w fun e w' => e = .returned (.tuple #[]) ∧ Gr w w' := by
  have H0 := Lib.hid (fun W (hg : Gr w W) => none_no (h.gr hg))
  have H1 := Lib.hid (fun W (hg : Gr w W) => ask_no (h.gr hg))
  have H2 := Lib.hid (fun W (hg : Gr w W) => find_no (h.gr hg))
  rcases h with rfl | ⟨D, rfl, h⟩
  all_goals
    go_enter Try.func13, Try.ntmps13
    go_wp2_with (first | (go_at_call 45; refine (H0.out _ (by first | exact Gr.refl _ | exact (Gr.refl _).alloc _ | exact ((Gr.refl _).alloc _).alloc _ | exact (((Gr.refl _).alloc _).alloc _).alloc _)).mono ?_; rintro e w1 ⟨rfl, rfl⟩) | (go_at_call 35; refine (H1.out _ (by first | exact Gr.refl _ | exact (Gr.refl _).alloc _ | exact ((Gr.refl _).alloc _).alloc _ | exact (((Gr.refl _).alloc _).alloc _).alloc _)).mono ?_; rintro e w1 ⟨rfl, rfl⟩) | (go_at_call 40; refine (H2.out _ (by first | exact Gr.refl _ | exact (Gr.refl _).alloc _ | exact ((Gr.refl _).alloc _).alloc _ | exact (((Gr.refl _).alloc _).alloc _).alloc _) _).mono ?_; rintro e w1 ⟨rfl, rfl⟩))
    go_end0
    exact ⟨rfl, by first | exact Gr.refl _ | exact (Gr.refl _).alloc _ | exact ((Gr.refl _).alloc _).alloc _ | exact (((Gr.refl _).alloc _).alloc _).alloc _ | exact ((((Gr.refl _).alloc _).alloc _).alloc _).alloc _ | exact (((((Gr.refl _).alloc _).alloc _).alloc _).alloc _).alloc _⟩
theorem boot_no  : Calls Try.prog 20 #[v] w fun e w' => e = .returned (.tuple #[]) ∧ Gr w w' := by
  have H0 := Lib.hid (fun W (hg : Gr w W) => none_no (h.gr hg))
  have H1 := Lib.hid (fun W (hg : Gr w W) => ask_no (h.gr hg))
  have H2 := Lib.hid (fun W (hg : Gr w W) => find_no (h.gr hg))
  rcases h with rfl | ⟨D, rfl, h⟩
  all_goals
    go_enter Try.func20, Try.ntmps20
    go_wp2_with (first | (go_at_call 45; refine (H0.out _ (by first | exact Gr.refl _ | exact (Gr.refl _).alloc _ | exact ((Gr.refl _).alloc _).alloc _ | exact (((Gr.refl _).alloc _).alloc _).alloc _)).mono ?_; rintro e w1 ⟨rfl, rfl⟩) | (go_at_call 35; refine (H1.out _ (by first | exact Gr.refl _ | exact (Gr.refl _).alloc _ | exact ((Gr.refl _).alloc _).alloc _ | exact (((Gr.refl _).alloc _).alloc _).alloc _)).mono ?_; rintro e w1 ⟨rfl, rfl⟩) | (go_at_call 40; refine (H2.out _ (by first | exact Gr.refl _ | exact (Gr.refl _).alloc _ | exact ((Gr.refl _).alloc _).alloc _ | exact (((Gr.refl _).alloc _).alloc _).alloc _) _).mono ?_; rintro e w1 ⟨rfl, rfl⟩))
    go_end0
    exact ⟨rfl, by first | exact Gr.refl _ | exact (Gr.refl _).alloc _ | exact ((Gr.refl _).alloc _).alloc _ | exact (((Gr.refl _).alloc _).alloc _).alloc _ | exact ((((Gr.refl _).alloc _).alloc _).alloc _).alloc _ | exact (((((Gr.refl _).alloc _).alloc _).alloc _).alloc _).alloc _⟩
theorem dead_no  : Calls Try.prog 18 #[v] w fun e w' => e = .returned (.bool false) ∧ Gr w w' := by
  have H0 := Lib.hid (fun W (hg : Gr w W) => none_no (h.gr hg))
  have H1 := Lib.hid (fun W (hg : Gr w W) => ask_no (h.gr hg))
  have H2 := Lib.hid (fun W (hg : Gr w W) => find_no (h.gr hg))
  rcases h with rfl | ⟨D, rfl, h⟩
  all_goals
    go_enter Try.func18, Try.ntmps18
    go_wp2_with (first | (go_at_call 45; refine (H0.out _ (by first | exact Gr.refl _ | exact (Gr.refl _).alloc _ | exact ((Gr.refl _).alloc _).alloc _ | exact (((Gr.refl _).alloc _).alloc _).alloc _)).mono ?_; rintro e w1 ⟨rfl, rfl⟩) | (go_at_call 35; refine (H1.out _ (by first | exact Gr.refl _ | exact (Gr.refl _).alloc _ | exact ((Gr.refl _).alloc _).alloc _ | exact (((Gr.refl _).alloc _).alloc _).alloc _)).mono ?_; rintro e w1 ⟨rfl, rfl⟩) | (go_at_call 40; refine (H2.out _ (by first | exact Gr.refl _ | exact (Gr.refl _).alloc _ | exact ((Gr.refl _).alloc _).alloc _ | exact (((Gr.refl _).alloc _).alloc _).alloc _) _).mono ?_; rintro e w1 ⟨rfl, rfl⟩))
    go_ret
    exact ⟨rfl, by first | exact Gr.refl _ | exact (Gr.refl _).alloc _ | exact ((Gr.refl _).alloc _).alloc _ | exact (((Gr.refl _).alloc _).alloc _).alloc _ | exact ((((Gr.refl _).alloc _).alloc _).alloc _).alloc _ | exact (((((Gr.refl _).alloc _).alloc _).alloc _).alloc _).alloc _⟩
theorem read_no (s : ByteArray) : Calls Try.prog 17 #[v, .string s] w fun e w' => e = .returned (.tuple #[.slice none 0 0, .int .i64 1]) ∧ Gr w w' := by
  have H0 := Lib.hid (fun W (hg : Gr w W) => none_no (h.gr hg))
  have H1 := Lib.hid (fun W (hg : Gr w W) => ask_no (h.gr hg))
  have H2 := Lib.hid (fun W (hg : Gr w W) => find_no (h.gr hg))
  rcases h with rfl | ⟨D, rfl, h⟩
  all_goals
    go_enter Try.func17, Try.ntmps17
    go_wp2_with (first | (go_at_call 45; refine (H0.out _ (by first | exact Gr.refl _ | exact (Gr.refl _).alloc _ | exact ((Gr.refl _).alloc _).alloc _ | exact (((Gr.refl _).alloc _).alloc _).alloc _)).mono ?_; rintro e w1 ⟨rfl, rfl⟩) | (go_at_call 35; refine (H1.out _ (by first | exact Gr.refl _ | exact (Gr.refl _).alloc _ | exact ((Gr.refl _).alloc _).alloc _ | exact (((Gr.refl _).alloc _).alloc _).alloc _)).mono ?_; rintro e w1 ⟨rfl, rfl⟩) | (go_at_call 40; refine (H2.out _ (by first | exact Gr.refl _ | exact (Gr.refl _).alloc _ | exact ((Gr.refl _).alloc _).alloc _ | exact (((Gr.refl _).alloc _).alloc _).alloc _) _).mono ?_; rintro e w1 ⟨rfl, rfl⟩))
    go_ret2
    exact ⟨rfl, by first | exact Gr.refl _ | exact (Gr.refl _).alloc _ | exact ((Gr.refl _).alloc _).alloc _ | exact (((Gr.refl _).alloc _).alloc _).alloc _ | exact ((((Gr.refl _).alloc _).alloc _).alloc _).alloc _ | exact (((((Gr.refl _).alloc _).alloc _).alloc _).alloc _).alloc _⟩
theorem size_no (s : ByteArray) : Calls Try.prog 24 #[v, .string s] w fun e w' => e = .returned (.tuple #[.int .i64 0, .int .i64 1]) ∧ Gr w w' := by
  have H0 := Lib.hid (fun W (hg : Gr w W) => none_no (h.gr hg))
  have H1 := Lib.hid (fun W (hg : Gr w W) => ask_no (h.gr hg))
  have H2 := Lib.hid (fun W (hg : Gr w W) => find_no (h.gr hg))
  rcases h with rfl | ⟨D, rfl, h⟩
  all_goals
    go_enter Try.func24, Try.ntmps24
    go_wp2_with (first | (go_at_call 45; refine (H0.out _ (by first | exact Gr.refl _ | exact (Gr.refl _).alloc _ | exact ((Gr.refl _).alloc _).alloc _ | exact (((Gr.refl _).alloc _).alloc _).alloc _)).mono ?_; rintro e w1 ⟨rfl, rfl⟩) | (go_at_call 35; refine (H1.out _ (by first | exact Gr.refl _ | exact (Gr.refl _).alloc _ | exact ((Gr.refl _).alloc _).alloc _ | exact (((Gr.refl _).alloc _).alloc _).alloc _)).mono ?_; rintro e w1 ⟨rfl, rfl⟩) | (go_at_call 40; refine (H2.out _ (by first | exact Gr.refl _ | exact (Gr.refl _).alloc _ | exact ((Gr.refl _).alloc _).alloc _ | exact (((Gr.refl _).alloc _).alloc _).alloc _) _).mono ?_; rintro e w1 ⟨rfl, rfl⟩))
    go_ret2
    exact ⟨rfl, by first | exact Gr.refl _ | exact (Gr.refl _).alloc _ | exact ((Gr.refl _).alloc _).alloc _ | exact (((Gr.refl _).alloc _).alloc _).alloc _ | exact ((((Gr.refl _).alloc _).alloc _).alloc _).alloc _ | exact (((((Gr.refl _).alloc _).alloc _).alloc _).alloc _).alloc _⟩
theorem names_no  : Calls Try.prog 19 #[v] w fun e w' => e = .returned (.slice none 0 0) ∧ Gr w w' := by
  have H0 := Lib.hid (fun W (hg : Gr w W) => none_no (h.gr hg))
  have H1 := Lib.hid (fun W (hg : Gr w W) => ask_no (h.gr hg))
  have H2 := Lib.hid (fun W (hg : Gr w W) => find_no (h.gr hg))
  rcases h with rfl | ⟨D, rfl, h⟩
  all_goals
    go_enter Try.func19, Try.ntmps19
    go_wp2_with (first | (go_at_call 45; refine (H0.out _ (by first | exact Gr.refl _ | exact (Gr.refl _).alloc _ | exact ((Gr.refl _).alloc _).alloc _ | exact (((Gr.refl _).alloc _).alloc _).alloc _)).mono ?_; rintro e w1 ⟨rfl, rfl⟩) | (go_at_call 35; refine (H1.out _ (by first | exact Gr.refl _ | exact (Gr.refl _).alloc _ | exact ((Gr.refl _).alloc _).alloc _ | exact (((Gr.refl _).alloc _).alloc _).alloc _)).mono ?_; rintro e w1 ⟨rfl, rfl⟩) | (go_at_call 40; refine (H2.out _ (by first | exact Gr.refl _ | exact (Gr.refl _).alloc _ | exact ((Gr.refl _).alloc _).alloc _ | exact (((Gr.refl _).alloc _).alloc _).alloc _) _).mono ?_; rintro e w1 ⟨rfl, rfl⟩))
    go_ret
    exact ⟨rfl, by first | exact Gr.refl _ | exact (Gr.refl _).alloc _ | exact ((Gr.refl _).alloc _).alloc _ | exact (((Gr.refl _).alloc _).alloc _).alloc _ | exact ((((Gr.refl _).alloc _).alloc _).alloc _).alloc _ | exact (((((Gr.refl _).alloc _).alloc _).alloc _).alloc _).alloc _⟩
end
end Go.Proofs.Ytadbcikabpbogaa
