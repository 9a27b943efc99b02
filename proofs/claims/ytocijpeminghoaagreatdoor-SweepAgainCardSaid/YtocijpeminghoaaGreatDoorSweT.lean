/- SweepReads: one change is done; the walk. -/
import Derived.Test.YtocijpeminghoaaGreatDoorSweR
import Derived.Test.YtocijpeminghoaaGreatDoorLdE
import Derived.Test.YtocijpeminghoaaGreatDoorSweC
import Derived.BigQuiet
import Derived.RegionTactic
namespace Go.Proofs.YtocijpeminghoaaGreatDoor
open Go.RowKit
set_option maxRecDepth 100000
set_option linter.unusedVariables false
set_option linter.unusedSimpArgs false
set_option linter.unnecessarySimpa false

theorem mem_one {R : List Rw} {o : Opp} {x : Rw} (h : x ∈ one R o) : x ∈ R ∨ x = (o.key, o.val) := by
  have hb : ∀ {x : Rw}, x ∈ belowR o.key R → x ∈ R := fun h => (List.takeWhile_sublist _).subset h
  have hr : ∀ {x : Rw}, x ∈ restR o.key (aboveR o.key R) → x ∈ R := fun {x} h => by
    have ha : ∀ {x : Rw}, x ∈ aboveR o.key R → x ∈ R := fun h => (List.dropWhile_sublist _).subset h
    generalize aboveR o.key R = A at h ha
    cases A with
    | nil => cases h
    | cons y r =>
      simp only [restR] at h
      split at h
      · exact ha (List.mem_cons_of_mem _ h)
      · exact ha h
  unfold one at h
  split at h
  · unfold dropR at h
    rcases List.mem_append.1 h with h | h
    · exact .inl (hb h)
    · exact .inl (hr h)
  · unfold putR at h
    rcases List.mem_append.1 h with h | h
    · exact .inl (hb h)
    · rcases List.mem_cons.1 h with h | h
      · exact .inr h
      · exact .inl (hr h)
def SzR (x : Rw) : Prop := x.1.size < 140737488355328 ∧ x.2.size ≤ 140737488351232
theorem esc_len (l : List UInt8) : (esc l).length ≤ 2 * l.length := by
  induction l with
  | nil => simp [esc]
  | cons c r ih => unfold esc; split <;> simp <;> omega
theorem laidOp_sz {c : Cl} {o : Opp} (hk : c.key.size ≤ 140737488351232) (hv : c.val.size ≤ 140737488351232) (h : laidOp c = some o) : SzR (o.key, o.val) := by
  have hofL : ∀ l : List UInt8, (ofL l).size = l.length := fun l => by simp [ofL, ByteArray.size]
  unfold laidOp at h
  split at h
  · split at h
    · cases h
      refine ⟨?_, hv⟩
      rw [hofL]
      unfold intentKeyR
      split
      · rename_i h1
        have := esc_len c.key.data.toList
        simp [keyL]; simp at h1 this; omega
      · simp
    · cases h
  · split at h
    · cases h
      refine ⟨?_, hv⟩
      have : (vK ++ c.key).size = 1 + c.key.size := by rw [ByteArray.size_append]; rfl
      simp only [this]; omega
    · split at h
      · rename_i h1
        cases h
        refine ⟨?_, ?_⟩
        · rw [hofL]
          unfold versionKeyR
          split
          · rename_i h2
            have := esc_len c.key.data.toList
            have h3 := downL_length c.wall c.tick
            simp [keyL, h3]; simp at h2 this; omega
          · simp
        · rw [hofL]
          unfold versionW
          split
          · rename_i h2
            split
            · have h3 := numW_length 1
              have h4 := strW_length (verOf c)
              rw [List.length_append]; omega
            · have h3 := numW_length 0
              omega
          · simp
      · cases h
theorem laid_szs {l : List Cl} (hl : ∀ c ∈ l, c.key.size ≤ 140737488351232 ∧ c.val.size ≤ 140737488351232) : ∀ x ∈ laidR l, SzR x := by
  have gen : ∀ (l : List Cl) (R : List Rw), (∀ c ∈ l, c.key.size ≤ 140737488351232 ∧ c.val.size ≤ 140737488351232) → (∀ x ∈ R, SzR x) → ∀ x ∈ l.foldl laidRow R, SzR x := by
    intro l
    induction l with
    | nil => intro R _ h; exact h
    | cons c r ih =>
      intro R h1 h2
      rw [List.foldl_cons]
      refine ih _ (fun c' hc' => h1 c' (List.mem_cons_of_mem _ hc')) (fun x hx => ?_)
      obtain ⟨k1, k2⟩ := h1 c List.mem_cons_self
      unfold laidRow at hx
      split at hx
      · rename_i o ho
        unfold afterR at hx
        split at hx
        · rcases mem_one (R := R) (o := o) hx with h | h
          · exact h2 x h
          · rw [h]; exact laidOp_sz k1 k2 ho
        · exact h2 x hx
      · exact h2 x hx
  exact gen l [] hl (fun x hx => by cases hx)
/-- one that goes is taken away -/
theorem reads_step {R : List Rw} (hR : RisingR R) {hi : ByteArray} {a b a1 b1 : Int} (hst : lessS a b a1 b1 = true) (key : ByteArray) {O : List Rw} (hO : (betweenR vK wK R).filter (goB ⟨#[]⟩ hi a b (betweenR vK wK R)) = O) {k : Nat} (hk : k < O.length) :
    afterR [opGo O[k]] (rmv (O.drop (k + 1)) R) = rmv (O.drop k) R ∧ rdL key a1 b1 (betweenR vK wK (rmv (O.drop k) R)) = rdL key a1 b1 (betweenR vK wK (rmv (O.drop (k + 1)) R)) ∧ applyE [opGo O[k]] = 0 := by
  have hV : RisingR (betweenR vK wK R) := by rw [between_filter hR]; exact rising_filter hR _
  have hOs : O.drop k = O[k] :: O.drop (k + 1) := List.drop_eq_getElem_cons hk
  have hsp : O = O.take k ++ O[k] :: O.drop (k + 1) := by rw [← hOs, List.take_append_drop]
  have hOr : RisingR O := by rw [← hO]; exact rising_filter hV _
  have hmem : O[k] ∈ (betweenR vK wK R).filter (goB ⟨#[]⟩ hi a b (betweenR vK wK R)) := by rw [hO]; exact List.getElem_mem hk
  obtain ⟨m1, m2⟩ := List.mem_filter.1 hmem
  have hxR : O[k] ∈ R := by rw [between_filter hR] at m1; exact (List.mem_filter.1 m1).1
  have hxD : O[k] ∉ O.drop (k + 1) := fun h => by
    have h2 : RisingR (O.take k ++ O[k] :: O.drop (k + 1)) := by rw [← hsp]; exact hOr
    have := (rising_split h2).2 _ h
    rw [klt_irrefl] at this; cases this
  have hne : O[k].1.toList ≠ [] := by
    unfold goB at m2
    rw [Bool.and_eq_true] at m2
    have h1 := nsl_rdk m2.1
    unfold rdk at h1
    have h2 := (readV_inv (by simpa using h1)).1
    rw [ByteArray.toList_eq, h2]
    simp
  have hA : applyE [opGo O[k]] = 0 := by
    unfold applyE
    rw [if_neg (by simp), if_neg]
    simp [badO, opGo, hne]
  refine ⟨?_, ?_, hA⟩
  · unfold afterR
    rw [if_pos hA, hOs]
    simp only [applyR, List.foldl_cons, List.foldl_nil]
    unfold Go.Proofs.YtocijpeminghoaaGreatDoor.one
    rw [if_pos (by rfl)]
    exact rmv_drop hR (List.mem_filter.2 ⟨hxR, by simpa using hxD⟩)
  · rw [rmv_between hR, rmv_between hR, hOs]
    exact read_step hV (hO.trans hsp) hst key
theorem one_sub {w : World} {q : Option Addr} {c : Nat} {n : Nat} {l : List Opp} (h : RdO w (.slice q n c) l) (hn : n = l.length) {k : Nat} (hk : k < l.length) : ∃ blk off, q = some ⟨blk, off, none⟩ ∧ n ≤ c ∧ c ≤ 9223372036854775807 ∧ RdO w (.slice (some ⟨blk, off + k * 3, none⟩) 1 (c - k)) [l[k]] := by
  obtain ⟨blk, off, cap, e, h1, h2, _⟩ := RdO.at h hk
  cases e
  refine ⟨blk, off, rfl, by omega, by unfold maxLen at h2; exact h2, ?_⟩
  have h3 := RdE.take (RdE.drop h k (by omega)) 1 (by rw [List.length_drop]; omega)
  have e : (l.drop k).take 1 = [l[k]] := by rw [List.drop_eq_getElem_cons hk]; rfl
  rwa [e] at h3
theorem FrU.cells {S : Nat → Prop} {W w' : World} (h : FrU S W w') {k : Nat} {cs : Array Value} {t : TypeId} {fz : Nat × Nat} (ht : t ≠ 116 ∧ t ≠ 118 ∧ t ≠ 125) (hk : W.heap[k]? = some (.cells cs t fz)) : w'.heap[k]? = some (.cells cs t fz) := by
  refine h.blk k _ hk (fun _ hi => ?_)
  rcases hi with ⟨cs', fz', h1 | h1⟩ | ⟨cs', fz', h1⟩ <;> injection h1 with _ h2 _
  · exact ht.1 h2
  · exact ht.2.1 h2
  · exact ht.2.2 h2
/-- one of own changes is done -/
theorem apply_sub {ta N0 N : Nat} {Rc : List Rw} {W : World} (h : TabAt ta (fun k => N0 ≤ k) Rc W) (hN : N0 ≤ W.heap.size) {q : Option Addr} {n c : Nat} {ops : List Opp} (ho : OwnG 65 3 oppC W N (.slice q n c) ops) (hn : n = ops.length) (hR : Rc.length ≤ 1000) {k : Nat} (hk : k < ops.length) (he : applyE [ops[k]] = 0) :
    ∃ blk off, q = some ⟨blk, off, none⟩ ∧ n ≤ c ∧ c ≤ 9223372036854775807 ∧
    Calls Tryz.prog 11 #[.pointer (some ⟨ta, 0, none⟩), .slice (some ⟨blk, off + k * 3, none⟩) 1 (c - k)] W fun e w' => e = .returned (.int .i64 0) ∧ TabAt ta (fun k => N0 ≤ k) (afterR [ops[k]] Rc) w' ∧ FrU (fun k => N0 ≤ k) W w' := by
  obtain ⟨blk, off, rfl, h1, h2, h3⟩ := one_sub (ho.rd opEnc (by decide)) hn hk
  refine ⟨blk, off, rfl, h1, h2, (apply_tab h h3 (by simp) (by omega) (fun g hg _ _ => ?_)).mono ?_⟩
  · simp only [Value.ownBlock, Option.some.injEq] at hg
    subst hg
    rcases ho.2 with ⟨h4, _⟩ | ⟨g, cap, cur, h4, _, h5, _⟩
    · cases h4
    · cases h4
      refine ⟨cur, _, _, h5, ?_⟩
      rintro (⟨cs', fz', h6 | h6⟩ | ⟨cs', fz', h6⟩) <;> injection h6 with _ h7 _ <;> exact absurd h7 (by decide)
  · rintro e w' ⟨rfl, h4, h5⟩
    refine ⟨by rw [he], h4.mono (fun k hk => ?_), h5.mono (fun k hk _ => ?_)⟩
    · rcases hk with hk | hk
      · exact hk
      · exact Nat.le_trans hN hk
    · rcases hk with hk | hk
      · exact hk
      · exact Nat.le_trans hN hk
theorem own_fru {S : Nat → Prop} {W w' : World} (h : FrU S W w') {N : Nat} {v : Value} {ops : List Opp} (ho : OwnG 65 3 oppC W N v ops) : OwnG 65 3 oppC w' N v ops :=
  ho.kept (fun g c f hh => h.cells ⟨by decide, by decide, by decide⟩ hh)
end Go.Proofs.YtocijpeminghoaaGreatDoor
namespace Go.Proofs.YtocijpeminghoaaGreatDoor
open Go.RowKit
set_option maxRecDepth 100000
set_option linter.unusedVariables false
set_option linter.unusedSimpArgs false
set_option linter.unnecessarySimpa false

set_option maxHeartbeats 8000000 in
theorem sweepReads_walk {w : World} {v : Value} {l : List Cl} (hw : Sh w) (hl : RdC w v l) (hlen : l.length ≤ 140737488355328) (hk : ∀ c ∈ l, (-9223372036854775808 ≤ c.kind ∧ c.kind ≤ 9223372036854775807) ∧ c.key.size ≤ 140737488351232 ∧ c.val.size ≤ 140737488351232) (a b a1 b1 : Int) (key : ByteArray) :
    Calls Tryz.prog 3 #[v, .agg #[.int .i64 a, .int .i64 b, .int .i64 a1, .int .i64 b1], .string key] w fun e w' => e = .returned (.bool true) ∧ Gr w w' := by
  have HSh := Lib.hid hw
  have HL := Lib.hid hl
  have HK := Lib.hid hk
  clear hw hl hk
  go_enter Tryz.func3, Tryz.ntmps3
  go_wp2_with fail
  refine (works15 (HSh.out.gr ((Gr.refl w).alloc _))).mono ?_
  rintro e w1 ⟨rfl, hg1⟩
  have HG := Lib.hid (((Gr.refl w).alloc _).trans hg1)
  have HB := Lib.hid (hg1.blk (heap_alloc_new w _))
  clear hg1
  go_wp2_with fail
  refine (laid_any (HL.out.gr HG.out) hlen (fun c hc => ⟨(HK.out c hc).1, (HK.out c hc).2.1⟩)).mono ?_
  rintro e w2 ⟨ta, tb, rfl, h2, hg2⟩
  have HT := Lib.hid (h2.a.mono (S' := fun k => w.heap.size ≤ k) (fun k hk => Nat.le_trans HG.out.size hk.1))
  replace HB := Lib.hid (hg2.blk HB.out)
  replace HG := Lib.hid (HG.out.trans hg2)
  have HRl : Hid ((laidR (l.take 100)).length ≤ 100) := Lib.hid (Nat.le_trans (len_laid _) (by rw [List.length_take]; omega))
  have HSz : Hid (∀ x ∈ laidR (l.take 100), SzR x) := Lib.hid (laid_szs (fun c hc => (HK.out c (List.mem_of_mem_take hc)).2))
  clear h2 hg2 HL HK
  generalize laidR (l.take 100) = R at *
  obtain ⟨k_0, k_1, k_2, k_3, f_0, f_1, f_2, f_3, l_0⟩ := blk4 HB.out
  cases hst : stampOk a b with
  | false =>
    have HA := Lib.hid (fun w => sweep_arg ta ⟨#[]⟩ hiK a b (by decide) hi_size (.inr hst) w)
    clear hst
    have hlenn := fun W ty => len_ops (w := W) (q := none) (n := 0) (c := 0) (ty := ty)
    go_wp2
    go_region_with (first
      | (go_at_call 8; refine (all15 _).mono ?_; rintro e w3 ⟨rfl, hg3⟩; have q_0 := hg3.cell' k_0; have q_1 := hg3.cell' k_1)
      | (go_at_call 7; refine (HA.out _).mono ?_; rintro e w4 ⟨rfl, hg4⟩; have HG4 := Lib.hid (HG.out.trans (((Gr.refl w2).drew.trans hg3).trans hg4)); have HX4 := Lib.hid (((Gr.refl w2).drew.trans hg3).trans hg4)))
    all_goals clear hg3 hg4 k_0 k_1 k_2 k_3 f_0 f_1 f_2 f_3 q_0 q_1
    all_goals go_wp2
    all_goals go_ret
    all_goals exact ⟨ret_bool (by simp), HG4.out⟩
  | true =>
    go_wp2
    go_region_with (first
      | (go_at_call 8; refine (all15 _).mono ?_; rintro e w3 ⟨rfl, hg3⟩; have q_0 := hg3.cell' k_0; have q_1 := hg3.cell' k_1)
      | (go_at_call 7; go_loud (refine (sweep_ok (HT.out.gr ((Gr.refl w2).drew.trans hg3)) HSz.out (Nat.le_trans HRl.out (by decide)) ⟨#[]⟩ hiK (by decide) hi_size empty_hi a b hst).mono ?_; rintro e w4 ⟨vo, rfl, ho, hg4⟩; have HG4 := Lib.hid (HG.out.trans (((Gr.refl w2).drew.trans hg3).trans hg4)); have HX4 := Lib.hid (((Gr.refl w2).drew.trans hg3).trans hg4))))
    all_goals clear hg3 hg4 q_0 q_1 k_0 k_1 k_2 k_3 f_0 f_1 f_2 f_3 l_0
    all_goals (
      have HT4 := Lib.hid (HT.out.gr HX4.out)
      have HB4 := Lib.hid (HX4.out.blk HB.out)
      have hR : RisingR R := tab_first HT4.out
      rw [sw_out (by rw [between_filter hR]; exact rising_filter hR _)] at ho
      obtain ⟨O, hO⟩ : ∃ O, (betweenR vK wK R).filter (goB ⟨#[]⟩ hiK a b (betweenR vK wK R)) = O := ⟨_, rfl⟩
      rw [hO] at ho
      have hOl : O.length ≤ 100 := by
        rw [← hO]
        refine Nat.le_trans (List.length_filter_le _ _) ?_
        rw [between_filter hR]
        exact Nat.le_trans (List.length_filter_le _ _) HRl.out
      obtain ⟨q, c, e⟩ := ho.slice
      rw [List.length_map] at e
      subst e
      have HO := Lib.hid ho
      have HOe := Lib.hid hO
      have HRi := Lib.hid hR
      clear ho hO hR HX4 HT HB
      have hlenw := fun W ty => len_ops (w := W) (q := q) (n := O.length) (c := c) (ty := ty)
      obtain ⟨k_0, k_1, k_2, k_3, f_0, f_1, f_2, f_3, l_0⟩ := blk4 HB4.out
      cases hle : lessS a b a1 b1 with
      | false =>
        have HLs := Lib.hid (fun w => less_any a b a1 b1 w)
        rw [hle] at HLs
        clear hle
        go_wp2_with fail
        refine (HLs.out _).mono ?_
        rintro e w5 ⟨rfl, hg5⟩
        have HG5 := Lib.hid (HG4.out.trans hg5)
        clear hg5 k_0 k_1 k_2 k_3 f_0 f_1 f_2 f_3
        go_wp2
        go_ret
        exact ⟨rfl, HG5.out⟩
      | true =>
        have HLs := Lib.hid (fun w => less_any a b a1 b1 w)
        rw [hle] at HLs
        have HLe := Lib.hid hle
        clear hle
        go_wp2_with fail
        refine (HLs.out _).mono ?_
        rintro e w5 ⟨rfl, hg5⟩
        have HG5 := Lib.hid (HG4.out.trans hg5)
        have HT5 := Lib.hid (HT4.out.gr hg5)
        have HB5 := Lib.hid (hg5.blk HB4.out)
        have HO5 := Lib.hid (HO.out.gr hg5)
        clear hg5 k_0 k_1 k_2 k_3 f_0 f_1 f_2 f_3 HG4 HT4 HB4 HO
        obtain ⟨k_0, k_1, k_2, k_3, f_0, f_1, f_2, f_3, l_0⟩ := blk4 HB5.out
        have HRd := Lib.hid (read15 HT5.out HSz.out key a1 b1)
        obtain ⟨rd, hrd⟩ : ∃ rd, rdL key a1 b1 (betweenR vK wK R) = rd := ⟨_, rfl⟩
        rw [hrd] at HRd
        have HRe := Lib.hid hrd
        obtain ⟨rv, ri⟩ := rd
        clear hrd
        go_wp2_with fail
        refine HRd.out.mono ?_
        rintro e w6 ⟨rfl, hg6⟩
        have HG6 := Lib.hid (HG5.out.trans hg6)
        have HT6 := Lib.hid (HT5.out.gr hg6)
        have HB6 := Lib.hid (hg6.blk HB5.out)
        have HO6 := Lib.hid (HO5.out.gr hg6)
        clear hg6 k_0 k_1 k_2 k_3 f_0 f_1 f_2 f_3 HG5 HT5 HB5 HO5 HRd
        go_wp2
        go_loopw [13] (fun iv wr => ∃ m : Nat, iv = .int .i64 ((m : Int) - 1) ∧ m ≤ O.length ∧ Hid (TabAt ta (fun k => w.heap.size ≤ k) (rmv (O.drop m) R) wr) ∧ Hid (Gr w wr) ∧ Hid (wr.heap[w.heap.size]? = some (.cells #[.int .i64 a, .int .i64 b, .int .i64 a1, .int .i64 b1] 25)) ∧ Hid (OwnG 65 3 oppC wr w3.heap.size (.slice q O.length c) (O.map opGo)) ∧ Hid (rdL key a1 b1 (betweenR vK wK (rmv (O.drop m) R)) = (rv, ri))) (fun iv _ => (intOf iv + 1).toNat)
        case atStart => exact ⟨O.length, by go_num, Nat.le_refl _, Lib.hid (by rw [List.drop_length, rmv_nil]; exact HT6.out), HG6, HB6, HO6, Lib.hid (by rw [List.drop_length, rmv_nil]; exact HRe.out)⟩
        case round =>
          obtain ⟨m, rfl, hm, HTr, HGr, HBr, HOr, HRr⟩ := hrel
          clear HG6 HT6 HB6 HO6
          cases m with
          | zero =>
            go_wp2
            go_ret
            exact ⟨rfl, HGr.out⟩
          | succ m =>
            have hm' : m < O.length := hm
            obtain ⟨st1, st2, st3⟩ := reads_step HRi.out HLe.out key HOe.out hm'
            have hmm : m < (O.map opGo).length := by rw [List.length_map]; exact hm'
            have hget : (O.map opGo)[m] = opGo O[m] := List.getElem_map _
            have hRm : (rmv (O.drop (m + 1)) R).length ≤ 1000 := Nat.le_trans (List.length_filter_le _ _) (Nat.le_trans HRl.out (by decide))
            obtain ⟨bo, oo, rfl, hc1, hc2, hA⟩ := apply_sub HTr.out HGr.out.size HOr.out (by rw [List.length_map]) hRm hmm (by rw [hget]; exact st3)
            rw [hget, st1] at hA
            have HA := Lib.hid hA
            have HS2 := Lib.hid st2
            clear hA st1 st2 st3 hget hRm hmm
            have hi1 : (((m + 1 : Nat) : Int) - 1) = (m : Int) := by omega
            rw [hi1]
            go_wp2_with fail
            refine HA.out.mono ?_
            rintro e w7 ⟨rfl, ht7, hf7⟩
            have HT7 := Lib.hid ht7
            have HG7 := Lib.hid (FrU.toGr HGr.out hf7 (fun k hk => hk))
            have HB7 := Lib.hid (hf7.cells ⟨by decide, by decide, by decide⟩ HBr.out)
            have HO7 := Lib.hid (own_fru hf7 HOr.out)
            have hrd := read15 ht7 (fun x hx => HSz.out x (List.mem_filter.1 hx).1) key a1 b1
            rw [HS2.out.trans HRr.out] at hrd
            have HRd := Lib.hid hrd
            clear ht7 hf7 hrd HTr HGr HBr HOr HA
            obtain ⟨k_0, k_1, k_2, k_3, f_0, f_1, f_2, f_3, l_0⟩ := blk4 HB7.out
            go_wp2_with fail
            refine HRd.out.mono ?_
            rintro e w8 ⟨rfl, hg8⟩
            have HT8 := Lib.hid (HT7.out.gr hg8)
            have HG8 := Lib.hid (HG7.out.trans hg8)
            have HB8 := Lib.hid (hg8.blk HB7.out)
            have HO8 := Lib.hid (HO7.out.gr hg8)
            clear hg8 k_0 k_1 k_2 k_3 f_0 f_1 f_2 f_3 HT7 HG7 HB7 HO7 HRd
            go_wp2
            go_roundw
            case rel => exact ⟨m, by go_num, by omega, HT8, HG8, HB8, HO8, Lib.hid (HS2.out.trans HRr.out)⟩
            case measure => simp [intOf]
        )
end Go.Proofs.YtocijpeminghoaaGreatDoor
