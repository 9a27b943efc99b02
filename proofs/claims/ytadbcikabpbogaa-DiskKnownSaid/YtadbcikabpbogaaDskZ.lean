/- Layer 7: Turn. -/
import Derived.Test.YtadbcikabpbogaaDskN
namespace Go.Proofs.Ytadbcikabpbogaa
open Go.RowKit Go.Maps
set_option maxRecDepth 100000
set_option linter.unusedVariables false
set_option linter.unusedSimpArgs false

theorem xor_num : ∀ n : Nat, n < 256 → ∀ b : Nat, b < 8 → (IntKind.u8.wrap (((BitVec.ofInt IntKind.u8.bits (n : Int) ^^^ BitVec.ofInt IntKind.u8.bits (((2 ^ b : Nat) : Int))).toNat : Nat) : Int) = (((turnB (UInt8.ofNat n) b).toNat : Nat) : Int)) := by decide +kernel
theorem shl_num : ∀ b : Nat, b < 8 → IntKind.u8.wrap (1 * 2 ^ min b 8) = ((2 ^ b : Nat) : Int) := by decide +kernel
theorem run_shl (b : Nat) (hb : b < 8) (w : World) : (binOp .shl 5 (.int .u8 1) (.int .i64 b)).run Try.prog w = .ok (.int .u8 ((2 ^ b : Nat) : Int)) w := by
  rw [← shl_num b hb]
  rcases b with _ | _ | _ | _ | _ | _ | _ | _ | b <;> first | kernel_rfl | omega
theorem run_xor (c : UInt8) (b : Nat) (hb : b < 8) (w : World) : (binOp .xor 5 (.int .u8 c.toNat) (.int .u8 ((2 ^ b : Nat) : Int))).run Try.prog w = .ok (.int .u8 (turnB c b).toNat) w := by
  have h := xor_num c.toNat (UInt8.toNat_lt c) b hb
  rw [UInt8.ofNat_toNat] at h
  rw [← h]
  rfl
theorem bits_turn (c : UInt8) {m : Nat} (hm : m < 8) : bits BinOp.xor IntKind.u8 (c.toNat : Int) (2 ^ m % 256) = ((turnB c m).toNat : Int) := by
  have h := xor_num c.toNat (UInt8.toNat_lt c) m hm
  rw [UInt8.ofNat_toNat] at h
  rw [← h, show ((2 : Int) ^ m % 256) = ((2 ^ m : Nat) : Int) by rcases m with _ | _ | _ | _ | _ | _ | _ | _ | m <;> first | rfl | omega]
  rfl
theorem Own.set {w : World} {N g c at_ : Nat} {l : List UInt8} (h : Own w N (.slice (some ⟨g, 0, none⟩) l.length c) l) (hat : at_ < l.length) (x : UInt8) : Own (w.setCell ⟨g, at_, none⟩ (.int .u8 x.toNat)) N (.slice (some ⟨g, 0, none⟩) l.length c) (l.set at_ x) := by
  refine ⟨by simp [nums_length], ?_⟩
  rcases h.form with ⟨h1, h2⟩ | ⟨g', cap, cur, h1, h2, h3, h4, h5, h6, h7⟩
  · cases h1
  · cases h1
    refine .inr ⟨g, c, cur.set! at_ (.int .u8 x.toNat), by simp [nums_length], h2, ?_, ?_⟩
    · exact heap_set h3 at_ _
    · refine ⟨by simpa [nums_length] using h4, h5, by simpa using h6, ?_⟩
      rw [nums_length, List.length_set, Nat.mul_one, Array.set!_eq_setIfInBounds, Array.toList_setIfInBounds, List.take_set, h7]
      simp [nums, List.map_set]

theorem turn_any {D : Nat} {S : Nat → Prop} {st : DS} {L : List FB} {M : Nat} {kv : Value} {w : World} (h : DiskAt D S st L M kv w) (s : ByteArray) (hs : s.size ≤ maxLen) (n b : Int) :
    Calls Try.prog 34 #[.pointer (some ⟨D, 0, none⟩), .string s, .int .i64 n, .int .i64 b] w fun e w' => Ans D S M kv w (st.turn s.data.toList n b) e w' := by
  have HF := Lib.hid (find_any h s hs)
  have HH := Lib.hid h
  have HFL := Lib.hid (getF_L h.fs s.data.toList)
  clear h hs
  by_cases hd : st.dead = true
  · have hr : st.turn s.data.toList n b = (71, st) := by unfold DS.turn; rw [if_pos hd]
    rw [hr]
    simp only [hd, if_true] at HF
    clear hr hd
    go_enter Try.func34, Try.ntmps34
    go_wp2_with (go_at_call 40; refine HF.out.mono ?_; rintro e w1 ⟨rfl, rfl⟩)
    go_ret
    exact Ans.same HH.out (Gr.refl w) 71
  · cases hk : getK FB.nm s.data.toList L with
    | none =>
      have hr : st.turn s.data.toList n b = (70, st) := by unfold DS.turn; rw [if_neg hd, HFL.out, hk]; rfl
      rw [hr]
      simp only [hd, hk, ptrOf, if_true, Bool.false_eq_true, if_false] at HF
      clear hr hd hk
      go_enter Try.func34, Try.ntmps34
      go_wp2_with (go_at_call 40; refine HF.out.mono ?_; rintro e w1 ⟨rfl, rfl⟩)
      go_ret
      exact Ans.same HH.out (Gr.refl w) 70
    | some x =>
      obtain ⟨hxL, hxn⟩ := getK_some hk
      have hf := HH.out.file x hxL
      obtain ⟨hxf, hsz⟩ := file_len HH.out hxL
      obtain ⟨q, c, hq⟩ := DiskAt.own_slice hf.own
      have hcell := hf.cell
      rw [hq] at hcell
      obtain ⟨k_0, k_1, g_0, g_1, l_0⟩ := blk2 hcell
      have hlen := fun W ty => len_u8 (w := W) (q := q) (n := x.f.b.length) (c := c) (ty := ty)
      simp only [hd, hk, ptrOf, reduceCtorEq, if_true, Bool.false_eq_true, if_false] at HF
      by_cases hbad : n < 0 ∨ (x.f.b.length : Int) ≤ n ∨ b < 0 ∨ 7 < b
      · have hr : st.turn s.data.toList n b = (9, st) := by unfold DS.turn; rw [if_neg hd, HFL.out, hk]; simp only [Option.map_some]; rw [if_pos hbad]
        rw [hr]
        clear hr hd hk hxL hxn hf hxf hcell hq
        go_enter Try.func34, Try.ntmps34
        go_wp2_with (go_at_call 40; refine HF.out.mono ?_; rintro e w1 ⟨rfl, rfl⟩)
        all_goals first | (exfalso; omega) | (go_ret; exact Ans.same HH.out (Gr.refl w) 9)
      · obtain ⟨a, rfl⟩ : ∃ a : Nat, n = a := ⟨n.toNat, by omega⟩
        obtain ⟨m, rfl⟩ : ∃ m : Nat, b = m := ⟨b.toNat, by omega⟩
        have ha : a < x.f.b.length := by omega
        have hm : m < 8 := by omega
        have hr : st.turn s.data.toList a m = (0, { st with fs := putF ⟨x.f.nm, x.f.b.set a (turnB (x.f.b.getD a 0) m), x.f.mark⟩ st.fs }) := by
          unfold DS.turn
          rw [if_neg hd, HFL.out, hk]
          simp only [Option.map_some]
          rw [if_neg hbad, Int.toNat_natCast, Int.toNat_natCast, show s.data.toList = x.f.nm from hxn.symm]
        rw [hr]
        rcases hf.own.rd with ⟨h1, _⟩ | ⟨bk, of, cp, e1, q1, q2, q3, q4⟩
        · rw [h1] at ha; simp at ha
        obtain rfl : of = 0 := by
          rcases hf.own.form with ⟨h1, h2⟩ | ⟨g, cap, cur, h1, _⟩
          · rw [h2] at ha; simp at ha
          · rw [h1] at e1; cases e1; rfl
        have hq2 := hq
        rw [e1] at hq2
        cases hq2
        have hb := q4 a ha
        rw [Nat.zero_add] at hb
        have hget : x.f.b.getD a 0 = x.f.b[a] := by simp [List.getD, List.getElem?_eq_getElem ha]
        rw [hget]
        have hown := hf.own
        rw [e1] at hown
        have HOw := Lib.hid (hown.set ha (turnB x.f.b[a] m))
        have HX : Hid (∀ w', Gr w.drew w' ∨ True → w'.heap = (w.setCell ⟨bk, a, none⟩ (.int .u8 (turnB x.f.b[a] m).toNat)).heap → w'.os = w.os ∧ w'.tape = w.tape ∧ w'.output = w.output → Ans D S M kv w (0, { st with fs := putF ⟨x.f.nm, x.f.b.set a (turnB x.f.b[a] m), x.f.mark⟩ st.fs }) (.returned (.int .i64 0)) w') := by
          refine Lib.hid (fun w' _ hw' hos => ?_)
          have hoth : ∀ (j : Nat) (o : Obj), bk ≠ j → w.heap[j]? = some o → w'.heap[j]? = some o := fun j o hj ho => by rw [hw']; exact heap_set_other ho _ _ hj
          have hbk : x.blk ≠ bk := by
            rintro rfl
            obtain ⟨cs, fz, h4⟩ := own_ty hf.own (g := x.blk) (by rw [e1]; rfl)
            rw [hf.cell] at h4
            simp at h4
          refine ⟨rfl, ⟨_, HH.out.upd1 hxL (x' := ⟨⟨x.f.nm, x.f.b.set a (turnB x.f.b[a] m), x.f.mark⟩, x.blk, x.sv⟩) rfl rfl (fun _ h => .inl h) (fun j o hj hg ho => hoth j o (fun e => hg bk (by rw [e1]; rfl) e.symm) ho) (fun g hg => .inl hg) ⟨hoth _ _ (Ne.symm hbk) hf.cell, ?_, by simpa using hf.mark, .inl hf.sb, fun g hg => .inl (hf.sg g hg)⟩ ?_⟩, ?_⟩
          · rw [e1]
            have := HOw.out
            simp only [Own, World.ownsRow, hw'] at this ⊢
            simpa using this
          · have h5 := putF_all HH.out.rise (f := x.f) ⟨x.f.nm, x.f.b.set a (turnB x.f.b[a] m), x.f.mark⟩ rfl hxf
            have := HH.out.all
            simp only [List.length_set] at h5 ⊢
            omega
          · refine ⟨hos.1, hos.2.1, hos.2.2, by rw [hw']; simp, fun j o ho hn => hoth j o ?_ ho⟩
            rintro rfl
            exact hn (hf.sg bk (by rw [e1]; rfl))
        have hsh := run_shl m hm
        have hxr := run_xor x.f.b[a] m hm
        have HFz : Hid (∃ cs, w.heap[bk]? = some (.cells cs 5)) := by
          obtain ⟨cs, fz, h4⟩ := own_ty hf.own (g := bk) (by rw [e1]; rfl)
          rcases hown.form with ⟨h1, _⟩ | ⟨g', cap', cur', h1, h2, h3, _⟩
          · cases h1
          · cases h1; exact Lib.hid ⟨_, h3⟩
        obtain ⟨cs, hcs⟩ := HFz.out
        have hfz : w.frozen? ⟨bk, a, none⟩ = false := by simp [World.frozen?, hcs]
        unfold maxLen at q2
        clear hr hd hk hxL hxn hf hxf hq e1 q4 hbad hown hget hcell HOw
        generalize hcc : x.f.b[a] = cc at *
        clear hcc
        go_enter Try.func34, Try.ntmps34
        go_wp2_with (go_at_call 40; refine HF.out.mono ?_; rintro e w1 ⟨rfl, rfl⟩)
        go_region
        go_wp2
        go_ret
        exact HX.out _ (.inr trivial) (by rw [bits_turn cc hm]; rfl) ⟨rfl, rfl, rfl⟩
end Go.Proofs.Ytadbcikabpbogaa
