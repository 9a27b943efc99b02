/- Layer 11: the statement that keys of one kind do not stand among those of another. -/
import Derived.Test.YtpnojkgdjkncbaaDoorKindsA
import Derived.Test.YtpnojkgdjkncbaaDoorRegT
namespace Go.Proofs.YtpnojkgdjkncbaaDoor
open Go.RowKit
set_option maxRecDepth 100000
set_option linter.unusedVariables false
set_option linter.unusedSimpArgs false

set_option maxHeartbeats 8000000 in
theorem cellKinds_walk {w : World} (s : ByteArray) (id a b : Int) (hs : s.size ≤ 140737488351232) (hid : -9223372036854775808 ≤ id ∧ id ≤ 9223372036854775807) (ha : -9223372036854775808 ≤ a ∧ a ≤ 9223372036854775807) (hb : -9223372036854775808 ≤ b ∧ b ≤ 9223372036854775807) (hsh : Sh w) :
    Calls Tryd.prog 7 #[.string s, .int .i64 id, .agg #[.int .i64 a, .int .i64 b]] w fun e w' => e = .returned (.bool true) ∧ Gr w w' := by
  have HAW := Lib.hid (fun (u : World) (hu : Sh u) => awake_any u hu)
  have HB := Lib.hid (fun u => lawBring_gr a b ha hb u)
  have HM := Lib.hid (bring_may a b)
  generalize bringI a 1099511627777 = A at HB HM
  generalize bringI b 1048576 = B at HB HM
  have hx := shortL_len s.data.toList
  have HK := Lib.hid (short_any s (by omega))
  generalize shortL s.data.toList = x at HK hx
  have HN := Lib.hid (fun u => bring_any id 9007199254740991 hid (by omega) u)
  have hn := bring_bd id (n := 9007199254740991) (by decide)
  generalize bringI id 9007199254740991 = m at HN hn
  have hx1 : x.length ≤ 1000 := by omega
  have HV := Lib.hid (fun u (hu : Sh u) => versionKey_any ⟨x.toArray⟩ A B u hu)
  rw [show versionKeyR (⟨x.toArray⟩ : ByteArray).data.toList A B = (118 :: (keyL x ++ downL A B), 0) by show versionKeyR x A B = _; unfold versionKeyR; rw [if_pos ⟨hx1, HM.out⟩]] at HV
  have HI := Lib.hid (fun u (hu : Sh u) => intentKey_any ⟨x.toArray⟩ u hu)
  rw [show intentKeyR (⟨x.toArray⟩ : ByteArray).data.toList = (105 :: keyL x, 0) by show intentKeyR x = _; unfold intentKeyR; rw [if_pos hx1]] at HI
  have HT := Lib.hid (fun u (hu : Sh u) => recordKey_any ⟨x.toArray⟩ (1 + m) u hu)
  rw [show recordKeyR (⟨x.toArray⟩ : ByteArray).data.toList (1 + m) = (116 :: (keyL x ++ beL (1 + m) 8), 0) by show recordKeyR x (1 + m) = _; unfold recordKeyR; rw [if_pos ⟨hx1, by simp [idOk]; omega⟩]] at HT
  have hl1 := keyL_len x hx1
  have hl2 := downL_len A B
  have hl3 := beL_length (1 + m) 8
  have RV := Lib.hid (fun u => readVersion_any ⟨(118 :: (keyL x ++ downL A B)).toArray⟩ (by rw [ba_len, List.length_cons, List.length_append]; omega) u)
  have RI := Lib.hid (fun u => readIntent_any ⟨(105 :: keyL x).toArray⟩ (by rw [ba_len, List.length_cons]; omega) u)
  have RT := Lib.hid (fun u => readRecord_any ⟨(116 :: (keyL x ++ beL (1 + m) 8)).toArray⟩ (by rw [ba_len, List.length_cons, List.length_append]; omega) u)
  have RVi := Lib.hid (fun u => readVersion_any ⟨(105 :: keyL x).toArray⟩ (by rw [ba_len, List.length_cons]; omega) u)
  have RIt := Lib.hid (fun u => readIntent_any ⟨(116 :: (keyL x ++ beL (1 + m) 8)).toArray⟩ (by rw [ba_len, List.length_cons, List.length_append]; omega) u)
  have RTv := Lib.hid (fun u => readRecord_any ⟨(118 :: (keyL x ++ downL A B)).toArray⟩ (by rw [ba_len, List.length_cons, List.length_append]; omega) u)
  rw [show (⟨(118 :: (keyL x ++ downL A B)).toArray⟩ : ByteArray).data.toList = 118 :: (keyL x ++ downL A B) by simp] at RV RTv
  rw [show (⟨(105 :: keyL x).toArray⟩ : ByteArray).data.toList = 105 :: keyL x by simp] at RI RVi
  rw [show (⟨(116 :: (keyL x ++ beL (1 + m) 8)).toArray⟩ : ByteArray).data.toList = 116 :: (keyL x ++ beL (1 + m) 8) by simp] at RT RIt
  rw [kinds_version hx1 HM.out] at RV
  rw [kinds_intent hx1] at RI
  rw [kinds_record hx1 (by omega)] at RT
  rw [kinds_v_of_i] at RVi
  rw [kinds_i_of_t] at RIt
  rw [kinds_t_of_v] at RTv
  have HTh := Lib.hid (fun (q : Int) (h : 1 ≤ q ∧ q ≤ 6) u => by have := threshold_any q u; rw [show thresholdR q = ([103, UInt8.ofNat q.toNat], 0) by unfold thresholdR; rw [if_pos h]] at this; exact this)
  have HL2 := Lib.hid (less_heads (c := 103) (d := 105))
  have f3 : Op.bytesLess (105 :: keyL x) (116 :: (keyL x ++ beL (1 + m) 8)) = true := less_heads _ _ (by decide)
  have f4 : Op.bytesLess (116 :: (keyL x ++ beL (1 + m) 8)) (118 :: (keyL x ++ downL A B)) = true := less_heads _ _ (by decide)
  generalize keyL x ++ downL A B = vk at *
  generalize keyL x ++ beL (1 + m) 8 = tk at *
  generalize keyL x = ik at *
  have hwrap : IntKind.i64.wrap (1 + m) = 1 + m := IntWalk.i64_in _ (by omega)
  clear hl1 hl2 hl3
  have BA := Lib.hid (heap_alloc_new w (.cells #[.int .i64 a, .int .i64 b] 23))
  have HG := Lib.hid ((Gr.refl w).alloc (.cells #[.int .i64 a, .int .i64 b] 23))
  go_enter Tryd.func7, Tryd.ntmps7
  obtain ⟨k_0, k_1, g_0, g_1, l_0⟩ := blk2 BA.out
  go_wp2_with fail
  refine (HK.out _).mono ?_
  rintro e w1 ⟨rfl, rfl⟩
  go_wp2_with fail
  refine (HN.out _).mono ?_
  rintro e w1 ⟨rfl, rfl⟩
  go_wp2_with fail
  refine (HB.out _).mono ?_
  rintro e w1 ⟨rfl, hg⟩
  have BA := Lib.hid (hg.blk BA.out)
  have HG := Lib.hid (HG.out.trans hg)
  clear hg
  clear k_0 k_1 g_0 g_1 l_0
  go_wp2_with fail
  refine (HV.out _ (hsh.gr HG.out)).mono ?_
  rintro e w2 ⟨rfl, hg⟩
  have BA := Lib.hid (hg.blk BA.out)
  have HG := Lib.hid (HG.out.trans hg)
  clear hg
  go_wp2_with fail
  refine (HI.out _ (hsh.gr HG.out)).mono ?_
  rintro e w3 ⟨rfl, hg⟩
  have BA := Lib.hid (hg.blk BA.out)
  have HG := Lib.hid (HG.out.trans hg)
  clear hg
  go_wp2_with fail
  refine (HT.out _ (hsh.gr HG.out)).mono ?_
  rintro e w4 ⟨rfl, hg⟩
  have BA := Lib.hid (hg.blk BA.out)
  have HG := Lib.hid (HG.out.trans hg)
  clear hg
  go_wp2_with fail
  have hTH := HTh.out (1 + (1 + m) % 6) (by omega)
  generalize UInt8.ofNat (1 + (1 + m) % 6).toNat = c at hTH
  have f1 : Op.bytesLess [98] [103, c] = true := less_heads _ _ (by decide)
  have f2 : Op.bytesLess [103, c] (105 :: ik) = true := less_heads _ _ (by decide)
  refine (hTH _).mono ?_
  rintro e w5 ⟨rfl, hg⟩
  have BA := Lib.hid (hg.blk BA.out)
  have HG := Lib.hid (HG.out.trans hg)
  clear hg
  clear hTH HTh HL2
  go_wp2_with fail
  refine (bound_any _).mono ?_
  rintro e w9 ⟨rfl, rfl⟩
  go_wp2_with fail
  refine (RV.out _).mono ?_
  rintro e w6 ⟨rfl, hg⟩
  have BA := Lib.hid (heap_alloc_mono (hg.blk BA.out) (.cells #[.int .i64 A, .int .i64 B] 23))
  have HG := Lib.hid ((HG.out.trans hg).alloc (.cells #[.int .i64 A, .int .i64 B] 23))
  clear hg
  have BV := Lib.hid (heap_alloc_new w6 (.cells #[.int .i64 A, .int .i64 B] 23))
  go_wp2_with fail
  refine (RI.out _).mono ?_
  rintro e w7 ⟨rfl, hg⟩
  have BA := Lib.hid (hg.blk BA.out)
  have BV := Lib.hid (hg.blk BV.out)
  have HG := Lib.hid (HG.out.trans hg)
  clear hg
  go_wp2_with fail
  refine (RT.out _).mono ?_
  rintro e w8 ⟨rfl, hg⟩
  have BA := Lib.hid (hg.blk BA.out)
  have BV := Lib.hid (hg.blk BV.out)
  have HG := Lib.hid (HG.out.trans hg)
  clear hg
  go_wp2_with fail
  refine (RVi.out _).mono ?_
  rintro e w9 ⟨rfl, hg⟩
  have BA := Lib.hid (heap_alloc_mono (hg.blk BA.out) (.cells #[.int .i64 0, .int .i64 0] 23))
  have BV := Lib.hid (heap_alloc_mono (hg.blk BV.out) (.cells #[.int .i64 0, .int .i64 0] 23))
  have HG := Lib.hid ((HG.out.trans hg).alloc (.cells #[.int .i64 0, .int .i64 0] 23))
  clear hg
  go_wp2_with fail
  refine (RIt.out _).mono ?_
  rintro e w10 ⟨rfl, hg⟩
  have BA := Lib.hid (hg.blk BA.out)
  have BV := Lib.hid (hg.blk BV.out)
  have HG := Lib.hid (HG.out.trans hg)
  clear hg
  go_wp2_with fail
  refine (RTv.out _).mono ?_
  rintro e w11 ⟨rfl, hg⟩
  have BA := Lib.hid (hg.blk BA.out)
  have BV := Lib.hid (hg.blk BV.out)
  have HG := Lib.hid (HG.out.trans hg)
  clear hg
  clear f1 f2 f3 f4 RV RI RT RVi RIt RTv HV HI HT HK HN
  go_wp2_with fail
  obtain ⟨k_0, k_1, g_0, g_1, l_0⟩ := blk2 (heap_drew BV.out)
  obtain ⟨j_0, j_1, jg_0, jg_1, jl_0⟩ := blk2 (heap_drew BA.out)
  have F0 := cellRule k_0
  have F1 := cellRule k_1
  have F2 := cellRule j_0
  have F3 := cellRule j_1
  clear k_0 k_1 g_0 g_1 l_0 j_0 j_1 jg_0 jg_1 jl_0
  have HGl := Lib.hid HG.out
  clear HG
  refine wp_region_held_drew (S := fun w' => Gr w11.drew w') (by kernel_rfl) (Gr.refl _) (fun hHeld => ?_)
  try dsimp only at hHeld
  refine wpAnyH_take (i := 0) rfl (by kernel_rfl) (by kernel_rfl) (by kernel_rfl) (fun _ _ _ h => h) (Or.inl ⟨by rfl, by intro w hSw; (try dsimp only at hSw); go_simp; (try with_reducible rfl)⟩) (by assumption) ?_; (try simp only [Act.put, List.setIfInBounds_toArray, List.set_cons_zero, List.set_cons_succ, List.getElem_toArray, List.getElem_cons_zero, List.getElem_cons_succ])
  refine wpAnyH_take (i := 1) rfl (by kernel_rfl) (by kernel_rfl) (by kernel_rfl) (fun _ _ _ h => h) (Or.inl ⟨by rfl, by intro w hSw; (try dsimp only at hSw); go_simp; (try with_reducible rfl)⟩) (by assumption) ?_; (try simp only [Act.put, List.setIfInBounds_toArray, List.set_cons_zero, List.set_cons_succ, List.getElem_toArray, List.getElem_cons_zero, List.getElem_cons_succ])
  refine wpAnyH_take (i := 2) rfl (by kernel_rfl) (by kernel_rfl) (by kernel_rfl) (fun _ _ _ h => h) (Or.inl ⟨by rfl, by intro w hSw; (try dsimp only at hSw); go_simp; (try with_reducible rfl)⟩) (by assumption) ?_; (try simp only [Act.put, List.setIfInBounds_toArray, List.set_cons_zero, List.set_cons_succ, List.getElem_toArray, List.getElem_cons_zero, List.getElem_cons_succ])
  refine wpAnyH_take (i := 3) rfl (by kernel_rfl) (by kernel_rfl) (by kernel_rfl) (fun _ _ _ h => h) (Or.inl ⟨by rfl, by intro w hSw; (try dsimp only at hSw); go_simp; (try with_reducible rfl)⟩) (by assumption) ?_; (try simp only [Act.put, List.setIfInBounds_toArray, List.set_cons_zero, List.set_cons_succ, List.getElem_toArray, List.getElem_cons_zero, List.getElem_cons_succ])
  refine wpAnyH_take (i := 4) rfl (by kernel_rfl) (by kernel_rfl) (by kernel_rfl) (fun _ _ _ h => h) (Or.inl ⟨by rfl, by intro w hSw; (try dsimp only at hSw); go_simp; (try with_reducible rfl)⟩) (by assumption) ?_; (try simp only [Act.put, List.setIfInBounds_toArray, List.set_cons_zero, List.set_cons_succ, List.getElem_toArray, List.getElem_cons_zero, List.getElem_cons_succ])
  refine wpAnyH_take (i := 5) rfl (by kernel_rfl) (by kernel_rfl) (by kernel_rfl) (fun _ _ _ h => h) (Or.inl ⟨by rfl, by intro w hSw; (try dsimp only at hSw); go_simp; (try with_reducible rfl)⟩) (by assumption) ?_; (try simp only [Act.put, List.setIfInBounds_toArray, List.set_cons_zero, List.set_cons_succ, List.getElem_toArray, List.getElem_cons_zero, List.getElem_cons_succ])
  refine wpAnyH_ready (rs := [6]) (by kernel_rfl) (by simp) ?_
  refine AllReadyH.cons rfl (fun K hK => ?_) AllReadyH.nil
  go_simp
  have HBc := Lib.hid (HB.out w11.drew)
  go_wp2_with (go_at_call 19; refine HBc.out.mono ?_; rintro e u1 ⟨rfl, hu1⟩)
  refine hK.out _ _ hu1 (fun _ => wpAnyH_turn hu1 (fun hHeld => ?_))
  clear hK K HBc
  try dsimp only at hHeld
  have F0' := Rule.turn F0 hu1
  have F1' := Rule.turn F1 hu1
  have F2' := Rule.turn F2 hu1
  have F3' := Rule.turn F3 hu1
  clear F0 F1 F2 F3
  have HGu := Lib.hid ((HGl.out.drew).trans hu1)
  refine wpAnyH_take (i := 7) rfl (by kernel_rfl) (by kernel_rfl) (by kernel_rfl) (fun _ _ _ h => h) (Or.inl ⟨by rfl, by intro w hSw; (try dsimp only at hSw); go_simp; (try with_reducible rfl)⟩) (by assumption) ?_; (try simp only [Act.put, List.setIfInBounds_toArray, List.set_cons_zero, List.set_cons_succ, List.getElem_toArray, List.getElem_cons_zero, List.getElem_cons_succ])
  refine wpAnyH_take (i := 8) rfl (by kernel_rfl) (by kernel_rfl) (by kernel_rfl) (fun _ _ _ h => h) (Or.inl ⟨by rfl, by intro w hSw; (try dsimp only at hSw); go_simp; (try with_reducible rfl)⟩) (by assumption) ?_; (try simp only [Act.put, List.setIfInBounds_toArray, List.set_cons_zero, List.set_cons_succ, List.getElem_toArray, List.getElem_cons_zero, List.getElem_cons_succ])
  refine wpAnyH_take (i := 9) rfl (by kernel_rfl) (by kernel_rfl) (by kernel_rfl) (fun _ _ _ h => h) (Or.inl ⟨by rfl, by intro w hSw; (try dsimp only at hSw); go_simp; (try with_reducible rfl)⟩) (by assumption) ?_; (try simp only [Act.put, List.setIfInBounds_toArray, List.set_cons_zero, List.set_cons_succ, List.getElem_toArray, List.getElem_cons_zero, List.getElem_cons_succ])
  refine wpAnyH_take (i := 10) rfl (by kernel_rfl) (by kernel_rfl) (by kernel_rfl) (fun _ _ _ h => h) (Or.inl ⟨by rfl, by intro w hSw; (try dsimp only at hSw); go_simp; (try with_reducible rfl)⟩) (by assumption) ?_; (try simp only [Act.put, List.setIfInBounds_toArray, List.set_cons_zero, List.set_cons_succ, List.getElem_toArray, List.getElem_cons_zero, List.getElem_cons_succ])
  refine wpAnyH_take (i := 11) rfl (by kernel_rfl) (by kernel_rfl) (by kernel_rfl) (fun _ _ _ h => h) (Or.inl ⟨by rfl, by intro w hSw; (try dsimp only at hSw); go_simp; (try with_reducible rfl)⟩) (by assumption) ?_; (try simp only [Act.put, List.setIfInBounds_toArray, List.set_cons_zero, List.set_cons_succ, List.getElem_toArray, List.getElem_cons_zero, List.getElem_cons_succ])
  refine wpAnyH_take (i := 12) rfl (by kernel_rfl) (by kernel_rfl) (by kernel_rfl) (fun _ _ _ h => h) (Or.inl ⟨by rfl, by intro w hSw; (try dsimp only at hSw); go_simp; (try with_reducible rfl)⟩) (by assumption) ?_; (try simp only [Act.put, List.setIfInBounds_toArray, List.set_cons_zero, List.set_cons_succ, List.getElem_toArray, List.getElem_cons_zero, List.getElem_cons_succ])
  refine wpAnyH_take (i := 13) rfl (by kernel_rfl) (by kernel_rfl) (by kernel_rfl) (fun _ _ _ h => h) (Or.inl ⟨by rfl, by intro w hSw; (try dsimp only at hSw); go_simp; (try with_reducible rfl)⟩) (by assumption) ?_; (try simp only [Act.put, List.setIfInBounds_toArray, List.set_cons_zero, List.set_cons_succ, List.getElem_toArray, List.getElem_cons_zero, List.getElem_cons_succ])
  refine wpAnyH_take (i := 14) rfl (by kernel_rfl) (by kernel_rfl) (by kernel_rfl) (fun _ _ _ h => h) (Or.inl ⟨by rfl, by intro w hSw; (try dsimp only at hSw); go_simp; (try with_reducible rfl)⟩) (by assumption) ?_; (try simp only [Act.put, List.setIfInBounds_toArray, List.set_cons_zero, List.set_cons_succ, List.getElem_toArray, List.getElem_cons_zero, List.getElem_cons_succ])
  refine wpAnyH_take (i := 15) rfl (by kernel_rfl) (by kernel_rfl) (by kernel_rfl) (fun _ _ _ h => h) (Or.inl ⟨by rfl, by intro w hSw; (try dsimp only at hSw); go_simp; (try with_reducible rfl)⟩) (by assumption) ?_; (try simp only [Act.put, List.setIfInBounds_toArray, List.set_cons_zero, List.set_cons_succ, List.getElem_toArray, List.getElem_cons_zero, List.getElem_cons_succ])
  refine wpAnyH_take (i := 16) rfl (by kernel_rfl) (by kernel_rfl) (by kernel_rfl) (fun _ _ _ h => h) (Or.inl ⟨by rfl, by intro w hSw; (try dsimp only at hSw); go_simp; (try with_reducible rfl)⟩) (by assumption) ?_; (try simp only [Act.put, List.setIfInBounds_toArray, List.set_cons_zero, List.set_cons_succ, List.getElem_toArray, List.getElem_cons_zero, List.getElem_cons_succ])
  refine wpAnyH_take (i := 17) rfl (by kernel_rfl) (by kernel_rfl) (by kernel_rfl) (fun _ _ _ h => h) (Or.inl ⟨by rfl, by intro w hSw; (try dsimp only at hSw); go_simp; (try with_reducible rfl)⟩) (by assumption) ?_; (try simp only [Act.put, List.setIfInBounds_toArray, List.set_cons_zero, List.set_cons_succ, List.getElem_toArray, List.getElem_cons_zero, List.getElem_cons_succ])
  refine wpAnyH_take (i := 18) rfl (by kernel_rfl) (by kernel_rfl) (by kernel_rfl) (fun _ _ _ h => h) (Or.inl ⟨by rfl, by intro w hSw; (try dsimp only at hSw); go_simp; (try with_reducible rfl)⟩) (by assumption) ?_; (try simp only [Act.put, List.setIfInBounds_toArray, List.set_cons_zero, List.set_cons_succ, List.getElem_toArray, List.getElem_cons_zero, List.getElem_cons_succ])
  refine wpAnyH_take (i := 19) rfl (by kernel_rfl) (by kernel_rfl) (by kernel_rfl) (fun _ _ _ h => h) (Or.inl ⟨by rfl, by intro w hSw; (try dsimp only at hSw); go_simp; (try with_reducible rfl)⟩) (by assumption) ?_; (try simp only [Act.put, List.setIfInBounds_toArray, List.set_cons_zero, List.set_cons_succ, List.getElem_toArray, List.getElem_cons_zero, List.getElem_cons_succ])
  refine wpAnyH_take (i := 20) rfl (by kernel_rfl) (by kernel_rfl) (by kernel_rfl) (fun _ _ _ h => h) (Or.inl ⟨by rfl, by intro w hSw; (try dsimp only at hSw); go_simp; (try with_reducible rfl)⟩) (by assumption) ?_; (try simp only [Act.put, List.setIfInBounds_toArray, List.set_cons_zero, List.set_cons_succ, List.getElem_toArray, List.getElem_cons_zero, List.getElem_cons_succ])
  refine wpAnyH_take (i := 21) rfl (by kernel_rfl) (by kernel_rfl) (by kernel_rfl) (fun _ _ _ h => h) (Or.inl ⟨by rfl, by intro w hSw; (try dsimp only at hSw); go_simp; (try with_reducible rfl)⟩) (by assumption) ?_; (try simp only [Act.put, List.setIfInBounds_toArray, List.set_cons_zero, List.set_cons_succ, List.getElem_toArray, List.getElem_cons_zero, List.getElem_cons_succ])
  refine wpAnyH_take (i := 22) rfl (by kernel_rfl) (by kernel_rfl) (by kernel_rfl) (fun _ _ _ h => h) (Or.inl ⟨by rfl, by intro w hSw; (try dsimp only at hSw); go_simp; (try with_reducible rfl)⟩) (by assumption) ?_; (try simp only [Act.put, List.setIfInBounds_toArray, List.set_cons_zero, List.set_cons_succ, List.getElem_toArray, List.getElem_cons_zero, List.getElem_cons_succ])
  refine wpAnyH_take (i := 23) rfl (by kernel_rfl) (by kernel_rfl) (by kernel_rfl) (fun _ _ _ h => h) (Or.inl ⟨by rfl, by intro w hSw; (try dsimp only at hSw); go_simp; (try with_reducible rfl)⟩) (by assumption) ?_; (try simp only [Act.put, List.setIfInBounds_toArray, List.set_cons_zero, List.set_cons_succ, List.getElem_toArray, List.getElem_cons_zero, List.getElem_cons_succ])
  refine wpAnyH_take (i := 24) rfl (by kernel_rfl) (by kernel_rfl) (by kernel_rfl) (fun _ _ _ h => h) (Or.inl ⟨by rfl, by intro w hSw; (try dsimp only at hSw); go_simp; (try with_reducible rfl)⟩) (by assumption) ?_; (try simp only [Act.put, List.setIfInBounds_toArray, List.set_cons_zero, List.set_cons_succ, List.getElem_toArray, List.getElem_cons_zero, List.getElem_cons_succ])
  refine wpAnyH_take (i := 25) rfl (by kernel_rfl) (by kernel_rfl) (by kernel_rfl) (fun _ _ _ h => h) (Or.inl ⟨by rfl, by intro w hSw; (try dsimp only at hSw); go_simp; (try with_reducible rfl)⟩) (by assumption) ?_; (try simp only [Act.put, List.setIfInBounds_toArray, List.set_cons_zero, List.set_cons_succ, List.getElem_toArray, List.getElem_cons_zero, List.getElem_cons_succ])
  refine wpAnyH_take (i := 26) rfl (by kernel_rfl) (by kernel_rfl) (by kernel_rfl) (fun _ _ _ h => h) (Or.inl ⟨by rfl, by intro w hSw; (try dsimp only at hSw); go_simp; (try with_reducible rfl)⟩) (by assumption) ?_; (try simp only [Act.put, List.setIfInBounds_toArray, List.set_cons_zero, List.set_cons_succ, List.getElem_toArray, List.getElem_cons_zero, List.getElem_cons_succ])
  refine wpAnyH_take (i := 27) rfl (by kernel_rfl) (by kernel_rfl) (by kernel_rfl) (fun _ _ _ h => h) (Or.inl ⟨by rfl, by intro w hSw; (try dsimp only at hSw); go_simp; (try with_reducible rfl)⟩) (by assumption) ?_; (try simp only [Act.put, List.setIfInBounds_toArray, List.set_cons_zero, List.set_cons_succ, List.getElem_toArray, List.getElem_cons_zero, List.getElem_cons_succ])
  refine wpAnyH_take (i := 28) rfl (by kernel_rfl) (by kernel_rfl) (by kernel_rfl) (fun _ _ _ h => h) (Or.inl ⟨by rfl, by intro w hSw; (try dsimp only at hSw); go_simp; (try with_reducible rfl)⟩) (by assumption) ?_; (try simp only [Act.put, List.setIfInBounds_toArray, List.set_cons_zero, List.set_cons_succ, List.getElem_toArray, List.getElem_cons_zero, List.getElem_cons_succ])
  refine wpAnyH_take (i := 29) rfl (by kernel_rfl) (by kernel_rfl) (by kernel_rfl) (fun _ _ _ h => h) (Or.inl ⟨by rfl, by intro w hSw; (try dsimp only at hSw); go_simp; (try with_reducible rfl)⟩) (by assumption) ?_; (try simp only [Act.put, List.setIfInBounds_toArray, List.set_cons_zero, List.set_cons_succ, List.getElem_toArray, List.getElem_cons_zero, List.getElem_cons_succ])
  refine wpAnyH_take (i := 30) rfl (by kernel_rfl) (by kernel_rfl) (by kernel_rfl) (fun _ _ _ h => h) (Or.inl ⟨by rfl, by intro w hSw; (try dsimp only at hSw); go_simp; (try with_reducible rfl)⟩) (by assumption) ?_; (try simp only [Act.put, List.setIfInBounds_toArray, List.set_cons_zero, List.set_cons_succ, List.getElem_toArray, List.getElem_cons_zero, List.getElem_cons_succ])
  refine wpAnyH_take (i := 31) rfl (by kernel_rfl) (by kernel_rfl) (by kernel_rfl) (fun _ _ _ h => h) (Or.inl ⟨by rfl, by intro w hSw; (try dsimp only at hSw); go_simp; (try with_reducible rfl)⟩) (by assumption) ?_; (try simp only [Act.put, List.setIfInBounds_toArray, List.set_cons_zero, List.set_cons_succ, List.getElem_toArray, List.getElem_cons_zero, List.getElem_cons_succ])
  refine wpAnyH_take (i := 32) rfl (by kernel_rfl) (by kernel_rfl) (by kernel_rfl) (fun _ _ _ h => h) (Or.inl ⟨by rfl, by intro w hSw; (try dsimp only at hSw); go_simp; (try with_reducible rfl)⟩) (by assumption) ?_; (try simp only [Act.put, List.setIfInBounds_toArray, List.set_cons_zero, List.set_cons_succ, List.getElem_toArray, List.getElem_cons_zero, List.getElem_cons_succ])
  refine wpAnyH_take (i := 33) rfl (by kernel_rfl) (by kernel_rfl) (by kernel_rfl) (fun _ _ _ h => h) (Or.inl ⟨by rfl, by intro w hSw; (try dsimp only at hSw); go_simp; (try with_reducible rfl)⟩) (by assumption) ?_; (try simp only [Act.put, List.setIfInBounds_toArray, List.set_cons_zero, List.set_cons_succ, List.getElem_toArray, List.getElem_cons_zero, List.getElem_cons_succ])
  refine wpAnyH_take (i := 34) rfl (by kernel_rfl) (by kernel_rfl) (by kernel_rfl) (fun _ _ _ h => h) (Or.inl ⟨by rfl, by intro w hSw; (try dsimp only at hSw); go_simp; (try with_reducible rfl)⟩) (by assumption) ?_; (try simp only [Act.put, List.setIfInBounds_toArray, List.set_cons_zero, List.set_cons_succ, List.getElem_toArray, List.getElem_cons_zero, List.getElem_cons_succ])
  refine wpAnyH_take (i := 35) rfl (by kernel_rfl) (by kernel_rfl) (by kernel_rfl) (fun _ _ _ h => h) (Or.inl ⟨by rfl, by intro w hSw; (try dsimp only at hSw); go_simp; (try with_reducible rfl)⟩) (by assumption) ?_; (try simp only [Act.put, List.setIfInBounds_toArray, List.set_cons_zero, List.set_cons_succ, List.getElem_toArray, List.getElem_cons_zero, List.getElem_cons_succ])
  refine wpAnyH_take (i := 36) rfl (by kernel_rfl) (by kernel_rfl) (by kernel_rfl) (fun _ _ _ h => h) (Or.inl ⟨by rfl, by intro w hSw; (try dsimp only at hSw); go_simp; (try with_reducible rfl)⟩) (by assumption) ?_; (try simp only [Act.put, List.setIfInBounds_toArray, List.set_cons_zero, List.set_cons_succ, List.getElem_toArray, List.getElem_cons_zero, List.getElem_cons_succ])
  refine wpAnyH_take (i := 37) rfl (by kernel_rfl) (by kernel_rfl) (by kernel_rfl) (fun _ _ _ h => h) (Or.inl ⟨by rfl, by intro w hSw; (try dsimp only at hSw); go_simp; (try with_reducible rfl)⟩) (by assumption) ?_; (try simp only [Act.put, List.setIfInBounds_toArray, List.set_cons_zero, List.set_cons_succ, List.getElem_toArray, List.getElem_cons_zero, List.getElem_cons_succ])
  refine wpAnyH_take (i := 38) rfl (by kernel_rfl) (by kernel_rfl) (by kernel_rfl) (fun _ _ _ h => h) (Or.inl ⟨by rfl, by intro w hSw; (try dsimp only at hSw); go_simp; (try with_reducible rfl)⟩) (by assumption) ?_; (try simp only [Act.put, List.setIfInBounds_toArray, List.set_cons_zero, List.set_cons_succ, List.getElem_toArray, List.getElem_cons_zero, List.getElem_cons_succ])
  refine wpAnyH_take (i := 39) rfl (by kernel_rfl) (by kernel_rfl) (by kernel_rfl) (fun _ _ _ h => h) (Or.inl ⟨by rfl, by intro w hSw; (try dsimp only at hSw); go_simp; (try with_reducible rfl)⟩) (by assumption) ?_; (try simp only [Act.put, List.setIfInBounds_toArray, List.set_cons_zero, List.set_cons_succ, List.getElem_toArray, List.getElem_cons_zero, List.getElem_cons_succ])
  refine wpAnyH_take (i := 40) rfl (by kernel_rfl) (by kernel_rfl) (by kernel_rfl) (fun _ _ _ h => h) (Or.inl ⟨by rfl, by intro w hSw; (try dsimp only at hSw); go_simp; (try with_reducible rfl)⟩) (by assumption) ?_; (try simp only [Act.put, List.setIfInBounds_toArray, List.set_cons_zero, List.set_cons_succ, List.getElem_toArray, List.getElem_cons_zero, List.getElem_cons_succ])
  refine wpAnyH_take (i := 41) rfl (by kernel_rfl) (by kernel_rfl) (by kernel_rfl) (fun _ _ _ h => h) (Or.inl ⟨by rfl, by intro w hSw; (try dsimp only at hSw); go_simp; (try with_reducible rfl)⟩) (by assumption) ?_; (try simp only [Act.put, List.setIfInBounds_toArray, List.set_cons_zero, List.set_cons_succ, List.getElem_toArray, List.getElem_cons_zero, List.getElem_cons_succ])
  refine wpAnyH_take (i := 42) rfl (by kernel_rfl) (by kernel_rfl) (by kernel_rfl) (fun _ _ _ h => h) (Or.inl ⟨by rfl, by intro w hSw; (try dsimp only at hSw); go_simp; (try with_reducible rfl)⟩) (by assumption) ?_; (try simp only [Act.put, List.setIfInBounds_toArray, List.set_cons_zero, List.set_cons_succ, List.getElem_toArray, List.getElem_cons_zero, List.getElem_cons_succ])
  refine wpAnyH_take (i := 43) rfl (by kernel_rfl) (by kernel_rfl) (by kernel_rfl) (fun _ _ _ h => h) (Or.inl ⟨by rfl, by intro w hSw; (try dsimp only at hSw); go_simp; (try with_reducible rfl)⟩) (by assumption) ?_; (try simp only [Act.put, List.setIfInBounds_toArray, List.set_cons_zero, List.set_cons_succ, List.getElem_toArray, List.getElem_cons_zero, List.getElem_cons_succ])
  refine wpAnyH_take (i := 44) rfl (by kernel_rfl) (by kernel_rfl) (by kernel_rfl) (fun _ _ _ h => h) (Or.inl ⟨by rfl, by intro w hSw; (try dsimp only at hSw); go_simp; (try with_reducible rfl)⟩) (by assumption) ?_; (try simp only [Act.put, List.setIfInBounds_toArray, List.set_cons_zero, List.set_cons_succ, List.getElem_toArray, List.getElem_cons_zero, List.getElem_cons_succ])
  refine wpAnyH_take (i := 45) rfl (by kernel_rfl) (by kernel_rfl) (by kernel_rfl) (fun _ _ _ h => h) (Or.inl ⟨by rfl, by intro w hSw; (try dsimp only at hSw); go_simp; (try with_reducible rfl)⟩) (by assumption) ?_; (try simp only [Act.put, List.setIfInBounds_toArray, List.set_cons_zero, List.set_cons_succ, List.getElem_toArray, List.getElem_cons_zero, List.getElem_cons_succ])
  refine wpAnyH_take (i := 46) rfl (by kernel_rfl) (by kernel_rfl) (by kernel_rfl) (fun _ _ _ h => h) (Or.inl ⟨by rfl, by intro w hSw; (try dsimp only at hSw); go_simp; (try with_reducible rfl)⟩) (by assumption) ?_; (try simp only [Act.put, List.setIfInBounds_toArray, List.set_cons_zero, List.set_cons_succ, List.getElem_toArray, List.getElem_cons_zero, List.getElem_cons_succ])
  refine wpAnyH_take (i := 47) rfl (by kernel_rfl) (by kernel_rfl) (by kernel_rfl) (fun _ _ _ h => h) (Or.inl ⟨by rfl, by intro w hSw; (try dsimp only at hSw); go_simp; (try with_reducible rfl)⟩) (by assumption) ?_; (try simp only [Act.put, List.setIfInBounds_toArray, List.set_cons_zero, List.set_cons_succ, List.getElem_toArray, List.getElem_cons_zero, List.getElem_cons_succ])
  refine wpAnyH_take (i := 48) rfl (by kernel_rfl) (by kernel_rfl) (by kernel_rfl) (fun _ _ _ h => h) (Or.inl ⟨by rfl, by intro w hSw; (try dsimp only at hSw); go_simp; (try with_reducible rfl)⟩) (by assumption) ?_; (try simp only [Act.put, List.setIfInBounds_toArray, List.set_cons_zero, List.set_cons_succ, List.getElem_toArray, List.getElem_cons_zero, List.getElem_cons_succ])
  refine wpAnyH_ready (rs := [49]) (by kernel_rfl) (by simp) ?_
  refine AllReadyH.cons rfl (fun K hK => ?_) AllReadyH.nil
  go_simp
  have HAc := Lib.hid (HAW.out u1 (hsh.gr HGu.out))
  go_wp2_with (go_at_call 17; refine HAc.out.mono ?_; rintro e u2 ⟨rfl, hu2⟩)
  refine hK.out _ _ hu2 (fun _ => wpAnyH_turn hu2 (fun hHeld => ?_))
  clear hK K HAc F0' F1' F2' F3'
  try dsimp only at hHeld
  refine wpAnyH_take (i := 50) rfl (by kernel_rfl) (by kernel_rfl) (by kernel_rfl) (fun _ _ _ h => h) (Or.inl ⟨by rfl, by intro w hSw; (try dsimp only at hSw); go_simp; (try with_reducible rfl)⟩) (by assumption) ?_; (try simp only [Act.put, List.setIfInBounds_toArray, List.set_cons_zero, List.set_cons_succ, List.getElem_toArray, List.getElem_cons_zero, List.getElem_cons_succ])
  refine wpAnyH_take (i := 51) rfl (by kernel_rfl) (by kernel_rfl) (by kernel_rfl) (fun _ _ _ h => h) (Or.inl ⟨by rfl, by intro w hSw; (try dsimp only at hSw); go_simp; (try with_reducible rfl)⟩) (by assumption) ?_; (try simp only [Act.put, List.setIfInBounds_toArray, List.set_cons_zero, List.set_cons_succ, List.getElem_toArray, List.getElem_cons_zero, List.getElem_cons_succ])
  refine wpAnyH_done (by kernel_rfl) ?_ _
  clear hHeld
  have hgF := HGu.out.trans hu2
  go_wp2
  go_ret
  exact ⟨rfl, hgF⟩
end Go.Proofs.YtpnojkgdjkncbaaDoor
