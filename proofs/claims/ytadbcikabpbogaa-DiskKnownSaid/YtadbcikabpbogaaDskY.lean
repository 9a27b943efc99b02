/- Layer 7: the statement on pieces. -/
import Derived.Test.YtadbcikabpbogaaDskX
namespace Go.Proofs.Ytadbcikabpbogaa
open Go.RowKit Go.Maps
set_option maxRecDepth 100000
set_option linter.unusedVariables false
set_option linter.unusedSimpArgs false

/-- a slice of slices of bytes that is read -/
abbrev RdP (w : World) (v : Value) (l : List (List UInt8)) : Prop := RdR (fun w ds x => ∃ y, ds = [y] ∧ Rd w y x) 1 w v l
theorem RdP.gr {a b : World} {v : Value} {l : List (List UInt8)} (h : RdP a v l) (hg : Gr a b) : RdP b v l := RdR.gr (fun _ _ _ _ g ⟨y, h1, h2⟩ => ⟨y, h1, h2.gr g⟩) hg h
theorem RdP.form {w : World} {v : Value} {l : List (List UInt8)} (h : RdP w v l) : ∃ q c, v = .slice q l.length c := by
  rcases h with ⟨rfl, q, c, rfl, _⟩ | ⟨blk, off, cap, rfl, _⟩
  · exact ⟨q, c, rfl⟩
  · exact ⟨_, _, rfl⟩
theorem RdP.at {w : World} {v : Value} {l : List (List UInt8)} (h : RdP w v l) {k : Nat} (hk : k < l.length) : ∃ blk off cap y, v = .slice (some ⟨blk, off, none⟩) l.length cap ∧ l.length ≤ cap ∧ cap ≤ maxLen ∧ blk < w.heap.size ∧ w.cell? ⟨blk, off + k, none⟩ = some y ∧ Rd w y l[k] := by
  rcases h with ⟨rfl, _⟩ | ⟨blk, off, cap, rfl, h1, h2, h3, h4, h5⟩
  · simp at hk
  · obtain ⟨ds, d1, d2, y, rfl, hy⟩ := h5 k hk
    exact ⟨blk, off, cap, y, rfl, h2, h3, h4, by simpa using d2 0 (by simp), hy⟩
theorem len_pieces {w : World} {q : Option Addr} {n c : Nat} {ty : TypeId} : (Builtin.len_ #[43] ty #[.slice q n c]).run Try.prog w = .ok (.int .i64 n) w := by
  cases q <;> simp [Builtin.len_, run_underlying Try.underlying43, go_sem]

theorem app_at {W : World} {N : Nat} (hN : N ≤ W.heap.size) {ops : Array Oper} {rest : List Oper} {o : Oper} {a : Act} {Q : Exit → Act → World → Prop} (hgd : o.guard = none) (s x : Operand)
    (ho : o.op = .call { callee := .builtin .append, args := #[s, x], argTypes := #[30, 30] }) {v y : Value} (xs l : List UInt8) (hs : a.eval s = v) (hx : a.eval x = y)
    (hown : Own W N v xs) (hrd : Rd W y l) (hlen : xs.length + l.length ≤ 140737488355328)
    (h : ∀ v' w', Own w' N v' (xs ++ l) → W.grownBy w' v.ownBlock → (v'.ownBlock = v.ownBlock ∨ v'.ownBlock = some W.heap.size) → wpList Try.prog ops Q rest (a.put o.dst v') w') : wpList Try.prog ops Q (o :: rest) a W := by
  refine wpList_plain hgd fun _ hK => ?_
  obtain ⟨v', w', hr, h1, h2, h3⟩ := run_app hN o.type xs l hown hrd hlen
  unfold Oper.wp execOp
  simp only [ho, resolve, invoke, builtin, Sem.run_bind, Sem.run_pure, Result.andThen_ok, List.map_toArray, List.map_cons, List.map_nil, hs, hx, hr]
  exact hK _ _ (h v' w' h1 h2 h3)

theorem DKO.app {D N : Nat} {st : DS} {W w' : World} {v v' : Value} (h : DKO D N (fun k => v.ownBlock = some k) st W) (hg : W.grownBy w' v.ownBlock) (hv : v'.ownBlock = v.ownBlock ∨ v'.ownBlock = some W.heap.size) :
    DKO D N (fun k => v'.ownBlock = some k) st w' := by
  obtain ⟨S, L, M, kv, h1, h2⟩ := h
  have hf : Fr (fun k => v.ownBlock = some k) W w' := Fr.grown hg (fun k hk => hk)
  refine ⟨S, L, M, kv, h1.fr hf (fun k hk => (h2 k hk).1.2), fun k hk => ⟨⟨(h2 k hk).1.1, fun e => ?_⟩, Nat.lt_of_lt_of_le (h2 k hk).2 hf.size⟩⟩
  rcases hv with hv | hv
  · rw [hv] at e; exact (h2 k hk).1.2 e
  · rw [hv] at e
    cases e
    have := (h2 _ hk).2
    omega

def pcs (l : List (List UInt8)) : List UInt8 := l.flatMap (·.take 200)
def pSt (l : List (List UInt8)) : Nat → DS
  | 0 => ⟨[], false, -1, []⟩
  | k + 1 => ⟨[⟨[97], pcs (l.take (k + 1)), 0⟩], false, -1, []⟩
theorem pcs_len (l : List (List UInt8)) : (pcs l).length ≤ l.length * 200 := by
  induction l with
  | nil => simp [pcs]
  | cons a r ih =>
    have : (pcs (a :: r)).length = (a.take 200).length + (pcs r).length := by simp [pcs]
    rw [this, List.length_take, List.length_cons, Nat.add_mul]
    omega
theorem pcs_succ {l : List (List UInt8)} {k : Nat} (hk : k < l.length) : pcs (l.take (k + 1)) = pcs (l.take k) ++ l[k].take 200 := by
  unfold pcs
  rw [List.take_succ_eq_append_getElem hk, List.flatMap_append]
  simp only [List.flatMap_cons, List.flatMap_nil, List.append_nil]
theorem p_append {l : List (List UInt8)} {k : Nat} (hk : k < l.length) (h40 : k < 40) : (pSt l k).append [97] (l[k].take 200) = (0, pSt l (k + 1)) := by
  have h1 := pcs_len (l.take k)
  rw [List.length_take] at h1
  have h2 : (l[k].take 200).length ≤ 200 := by rw [List.length_take]; omega
  cases k with
  | zero =>
    have : ¬ 4194304 < (l[0].take 200).length := by omega
    have e : pcs (l.take 0) = [] := rfl
    simp [DS.append, pSt, nameOk, getK, DS.work, putK, insK, delK, allF, pcs_succ hk, e]
    rw [if_neg (by omega)]
    rfl
  | succ j =>
    have : ¬ 4194304 < (pcs (l.take (j + 1))).length + (l[j + 1].take 200).length := by omega
    simp [DS.append, pSt, nameOk, getK, DS.work, putK, insK, delK, allF, pcs_succ hk]
    rw [List.length_take] at this
    omega
section
variable {l : List (List UInt8)} {k : Nat}
theorem p_none : (pSt l 0).read [97] = ([], 70) ∧ (pSt l 0).names = [] := by simp [pSt, DS.read, DS.names, getK]
theorem p_read (hk : 0 < k) : (pSt l k).read [97] = (pcs (l.take k), 0) := by
  cases k with
  | zero => omega
  | succ j => simp [pSt, DS.read, getK]
theorem p_cut (hk : 0 < k) {n : Nat} (hn : n ≤ (pcs (l.take k)).length) : (pSt l k).cut [97] n = (0, ⟨[⟨[97], (pcs (l.take k)).take n, 0⟩], false, -1, []⟩) := by
  cases k with
  | zero => omega
  | succ j =>
    simp only [pSt, DS.cut, getK, Bool.false_eq_true, if_false]
    simp [DS.work, putK, insK, delK]
    omega
theorem p_cut2 {A : List UInt8} {n : Nat} (hn : n ≤ A.length) : (⟨[⟨[97], A.take n, 0⟩], false, -1, []⟩ : DS).cut [97] (n + 1) = (9, ⟨[⟨[97], A.take n, 0⟩], false, -1, []⟩) := by
  simp [DS.cut, getK]
  omega
end
set_option maxHeartbeats 8000000 in
theorem diskPieces_walk {w : World} {vl : Value} {l : List (List UInt8)} (hl : RdP w vl l) (hlen : l.length ≤ 140737488355328) (hpl : ∀ x ∈ l, x.length ≤ 140737488355328) (n : Int) (hn : -9223372036854775808 ≤ n ∧ n ≤ 9223372036854775807) :
    Calls Try.prog 5 #[vl, .int .i64 n] w fun e w' => e = .returned (.bool true) ∧ Gr w w' := by
  obtain ⟨q, c, rfl⟩ := hl.form
  have HL := Lib.hid hl
  have HLN := Lib.hid hlen
  have HPL := Lib.hid hpl
  have HN := Lib.hid hn
  clear hl hlen hn hpl
  have hlenv := fun W ty => len_pieces (w := W) (q := q) (n := l.length) (c := c) (ty := ty)
  go_enter Try.func5, Try.ntmps5
  go_wp2_with (go_at_call 9; refine (works_any _).mono ?_; rintro e w1 ⟨rfl, hg1⟩)
  have HG1 := Lib.hid hg1
  clear hg1
  go_wp2_with fail
  refine (new_dk w1).mono ?_
  rintro e w2 ⟨d, rfl, hd2, hg2⟩
  have HD2 : Hid (DKO d w1.heap.size (fun k => (Value.slice none 0 0).ownBlock = some k) (pSt l 0) w2) := Lib.hid (hd2.off (Gr.refl _) _ (fun k hk => by cases hk))
  have HG2 := Lib.hid (HG1.out.trans hg2)
  have HN1 : Hid (w.heap.size ≤ w1.heap.size) := Lib.hid HG1.out.size
  have HN2 : Hid (w1.heap.size ≤ w2.heap.size) := Lib.hid hg2.size
  generalize w1.heap.size = N at *
  clear hd2 hg2 HG1
  go_wp2
  go_loopw [6, 7] (fun av iv wr => ∃ k : Nat, iv = .int .i64 k ∧ k ≤ l.length ∧ k ≤ 40 ∧ Hid (Own wr N av (pcs (l.take k))) ∧ Hid (DKO d N (fun g => av.ownBlock = some g) (pSt l k) wr) ∧ Hid (Gr w wr)) (fun _ iv _ => l.length - (intOf iv).toNat)
  case atStart => exact ⟨0, rfl, Nat.zero_le _, by omega, Lib.hid (Own.nil _ _), HD2, HG2⟩
  case round =>
    obtain ⟨k, rfl, hk1, hk2, HO, HD, HG⟩ := hrel
    by_cases hkl : k < l.length
    · by_cases hk40 : k < 40
      · obtain ⟨bk, of, cp, y, e1, q1, q2, q3, q4, q5⟩ := HL.out.at hkl
        cases e1
        obtain ⟨yq, yn, yc, rfl⟩ := q5.slice'
        obtain ⟨rfl, hyc, hyc2⟩ := q5.nc
        have HY := Lib.hid (q5.take (min l[k].length 200) (by omega))
        have HYe : Hid (l[k].take (min l[k].length 200) = l[k].take 200) := Lib.hid (by rw [Nat.min_comm, ← List.take_take, List.take_of_length_le (Nat.le_refl _)])
        have HAp := Lib.hid (p_append hkl hk40)
        have HSu := Lib.hid (pcs_succ hkl)
        have HPc := Lib.hid (pcs_len (l.take k))
        have hxl := HPL.out _ (List.getElem_mem hkl)
        have hc := HG.out.cell' q4
        have hylen := fun W ty => len_u8 (w := W) (q := yq) (n := l[k].length) (c := yc) (ty := ty)
        have hmin : (min (l[k].length : Int) 200) = ((min l[k].length 200 : Nat) : Int) := by omega
        have hmc : min l[k].length 200 ≤ yc := by omega
        generalize l[k] = X at *
        unfold maxLen at q2 hyc2
        clear q5 q4
        go_wp2
        go_region
        have HGd : Hid (Gr w wr.drew) := Lib.hid HG.out.drew
        have HDd : Hid (DKO d N (fun g => u6.ownBlock = some g) (pSt l k) wr.drew) := Lib.hid (HD.out.gr (Gr.refl _).drew)
        have HOd : Hid (Own wr.drew N u6 (pcs (l.take k))) := Lib.hid (HO.out.gr (Gr.refl _).drew)
        generalize wr.drew = wd at *
        have hNd : N ≤ wd.heap.size := HDd.out.lt
        clear HO HD HG
        have hr := HY.out.gr HGd.out
        rw [HYe.out] at hr
        have HR := Lib.hid hr
        have hlx : (X.take 200).length ≤ 200 := by rw [List.length_take]; omega
        have hlk : (pcs (l.take k)).length ≤ 8000 := by have := HPc.out; rw [List.length_take] at this; omega
        have HYb : Hid (∀ g, (Value.slice yq (min X.length 200) yc).ownBlock = some g → X.take 200 ≠ [] → g < N) := Lib.hid (fun g hg hne => Nat.lt_of_lt_of_le (HY.out.lt hg (by rw [HYe.out]; exact hne)) HN1.out)
        clear hr HPc hylen hmin hmc hyc
        go_wp2_with (at_builtin; refine app_at (N := N) hNd (by rfl) _ _ (by rfl) (pcs (l.take k)) (X.take 200) (by rfl) (by rfl) HOd.out HR.out (by omega) ?_; intro v3 w3 hown3 hgb3 hv3)
        have hf3 : Fr (fun g => u6.ownBlock = some g) wd w3 := Fr.grown hgb3 (fun k hk => hk)
        have HD3 := Lib.hid (HDd.out.app hgb3 hv3)
        have HG3 : Hid (Gr w w3) := Lib.hid (hf3.toGr HGd.out (fun g hg => Nat.le_trans HN1.out (World.ownsRow.lt HOd.out g hg).1))
        rw [← HSu.out] at hown3
        have HO3 := Lib.hid hown3
        have HR3 := Lib.hid (HY.out.gr HG3.out)
        clear hown3 hgb3 hv3 hf3 HR HOd HDd HGd
        go_wp2_with fail
        refine (append_too HD3.out (Gr.refl _) (fun g hg => (World.ownsRow.lt HO3.out g hg).2) (⟨#[97]⟩ : ByteArray) (by decide) (by have := HR3.out; rw [HYe.out] at this; exact this) (by omega) (fun g hg hne => .inl (HYb.out g hg hne)) HAp.out).mono ?_
        rintro e w4 ⟨rfl, hd4, hf4⟩
        have HD4 := Lib.hid hd4
        have HO4 := Lib.hid (HO3.out.frO hf4 (fun g hg => hg))
        have HG4 : Hid (Gr w w4) := Lib.hid (hf4.gr HG3.out HN1.out)
        clear hd4 hf4 HD3 HO3 HG3 HR3
        go_wp2
        go_roundw
        case rel => exact ⟨k + 1, by go_num, by omega, by omega, HO4, HD4, HG4⟩
        case measure => simp [intOf]; omega
      · have hk0 : 0 < k := by omega
        have hlne : ((l.length : Int) == 0) = false := by rw [beq_eq_false_iff_ne]; omega
        have hlt : ¬ ((k : Int) < 40) := by omega
        have HR := Lib.hid (p_read (l := l) hk0)
        have HC := Lib.hid (fun n hn => p_cut (l := l) hk0 (n := n) hn)
        have HPc := Lib.hid (pcs_len (l.take k))
        have hA : (pcs (l.take k)).length ≤ 8000 := by have := HPc.out; rw [List.length_take] at this; omega
        generalize pcs (l.take k) = A at *
        obtain ⟨aq, an, ac, rfl⟩ := HO.out.rd.slice'
        obtain ⟨rfl, hac, hac2⟩ := HO.out.rd.nc
        have hlenA := fun W ty => len_u8 (w := W) (q := aq) (n := A.length) (c := ac) (ty := ty)
        have hbd := bring_bd n (n := (A.length : Int) + 1) (by omega)
        have HBr := Lib.hid (bring_any n ((A.length : Int) + 1) HN.out (by omega))
        obtain ⟨m, hm⟩ : ∃ m : Nat, bringI n ((A.length : Int) + 1) = m := ⟨_, (Int.toNat_of_nonneg hbd.1).symm⟩
        rw [hm] at HBr hbd
        have hmA : m ≤ A.length := by omega
        have HMA := Lib.hid hmA
        have hmc : m ≤ ac := by omega
        clear hbd hm
        unfold maxLen at hac2
        go_wp2_with fail
        refine (size_dk HD.out.dk (Gr.refl _) (⟨#[97]⟩ : ByteArray) (by decide)).mono ?_
        rintro e w3 ⟨rfl, rfl⟩
        rw [show (pSt l k).read (⟨#[97]⟩ : ByteArray).data.toList = (A, 0) from HR.out]
        go_wp2_with (go_at_call 11; refine (HBr.out _).mono ?_; rintro e w3 ⟨rfl, rfl⟩)
        go_wp2_with fail
        refine (has_to HD.out.dk (Gr.refl _) (⟨#[97]⟩ : ByteArray) (by decide) HO.out.rd HR.out).mono ?_
        rintro e w4 ⟨rfl, hg⟩
        have HG4 := Lib.hid (HG.out.trans hg)
        have HD4 := Lib.hid (HD.out.gr hg)
        have HO4 := Lib.hid (HO.out.gr hg)
        clear hg HD HO HG
        go_wp2_with fail
        refine (cut_too HD4.out (Gr.refl _) (fun g hg => (World.ownsRow.lt HO4.out g hg).2) (⟨#[97]⟩ : ByteArray) (by decide) m (by omega) (HC.out m HMA.out)).mono ?_
        rintro e w5 ⟨rfl, hd, hf⟩
        have HD5 := Lib.hid hd
        have HO5 := Lib.hid (HO4.out.frO hf (fun g hg => hg))
        have HG5 : Hid (Gr w w5) := Lib.hid (hf.gr HG4.out HN1.out)
        clear hd hf HD4 HO4 HG4
        go_wp2_with fail
        refine (has_to HD5.out.dk (Gr.refl _) (⟨#[97]⟩ : ByteArray) (by decide) (l := A.take m) (HO5.out.rd.take m HMA.out) (by simp [DS.read, getK])).mono ?_
        rintro e w6 ⟨rfl, hg⟩
        have HG6 := Lib.hid (HG5.out.trans hg)
        have HD6 := Lib.hid (HD5.out.gr hg)
        clear hg HD5 HO5 HG5
        go_wp2_with fail
        refine (cut_to HD6.out.dk (Gr.refl _) (⟨#[97]⟩ : ByteArray) (by decide) ((m : Int) + 1) (by omega) (p_cut2 HMA.out)).mono ?_
        rintro e w7 ⟨rfl, hd, hf⟩
        go_wp2
        go_ret
        exact ⟨rfl, hf.gr HG6.out HN1.out⟩
    · by_cases hk0 : 0 < k
      · have hlne : ((l.length : Int) == 0) = false := by rw [beq_eq_false_iff_ne]; omega
        have hlt : ¬ ((k : Int) < l.length) := by omega
        have HR := Lib.hid (p_read (l := l) hk0)
        have HC := Lib.hid (fun n hn => p_cut (l := l) hk0 (n := n) hn)
        have HPc := Lib.hid (pcs_len (l.take k))
        have hA : (pcs (l.take k)).length ≤ 8000 := by have := HPc.out; rw [List.length_take] at this; omega
        generalize pcs (l.take k) = A at *
        obtain ⟨aq, an, ac, rfl⟩ := HO.out.rd.slice'
        obtain ⟨rfl, hac, hac2⟩ := HO.out.rd.nc
        have hlenA := fun W ty => len_u8 (w := W) (q := aq) (n := A.length) (c := ac) (ty := ty)
        have hbd := bring_bd n (n := (A.length : Int) + 1) (by omega)
        have HBr := Lib.hid (bring_any n ((A.length : Int) + 1) HN.out (by omega))
        obtain ⟨m, hm⟩ : ∃ m : Nat, bringI n ((A.length : Int) + 1) = m := ⟨_, (Int.toNat_of_nonneg hbd.1).symm⟩
        rw [hm] at HBr hbd
        have hmA : m ≤ A.length := by omega
        have HMA := Lib.hid hmA
        have hmc : m ≤ ac := by omega
        clear hbd hm
        unfold maxLen at hac2
        go_wp2_with fail
        refine (size_dk HD.out.dk (Gr.refl _) (⟨#[97]⟩ : ByteArray) (by decide)).mono ?_
        rintro e w3 ⟨rfl, rfl⟩
        rw [show (pSt l k).read (⟨#[97]⟩ : ByteArray).data.toList = (A, 0) from HR.out]
        go_wp2_with (go_at_call 11; refine (HBr.out _).mono ?_; rintro e w3 ⟨rfl, rfl⟩)
        go_wp2_with fail
        refine (has_to HD.out.dk (Gr.refl _) (⟨#[97]⟩ : ByteArray) (by decide) HO.out.rd HR.out).mono ?_
        rintro e w4 ⟨rfl, hg⟩
        have HG4 := Lib.hid (HG.out.trans hg)
        have HD4 := Lib.hid (HD.out.gr hg)
        have HO4 := Lib.hid (HO.out.gr hg)
        clear hg HD HO HG
        go_wp2_with fail
        refine (cut_too HD4.out (Gr.refl _) (fun g hg => (World.ownsRow.lt HO4.out g hg).2) (⟨#[97]⟩ : ByteArray) (by decide) m (by omega) (HC.out m HMA.out)).mono ?_
        rintro e w5 ⟨rfl, hd, hf⟩
        have HD5 := Lib.hid hd
        have HO5 := Lib.hid (HO4.out.frO hf (fun g hg => hg))
        have HG5 : Hid (Gr w w5) := Lib.hid (hf.gr HG4.out HN1.out)
        clear hd hf HD4 HO4 HG4
        go_wp2_with fail
        refine (has_to HD5.out.dk (Gr.refl _) (⟨#[97]⟩ : ByteArray) (by decide) (l := A.take m) (HO5.out.rd.take m HMA.out) (by simp [DS.read, getK])).mono ?_
        rintro e w6 ⟨rfl, hg⟩
        have HG6 := Lib.hid (HG5.out.trans hg)
        have HD6 := Lib.hid (HD5.out.gr hg)
        clear hg HD5 HO5 HG5
        go_wp2_with fail
        refine (cut_to HD6.out.dk (Gr.refl _) (⟨#[97]⟩ : ByteArray) (by decide) ((m : Int) + 1) (by omega) (p_cut2 HMA.out)).mono ?_
        rintro e w7 ⟨rfl, hd, hf⟩
        go_wp2
        go_ret
        exact ⟨rfl, hf.gr HG6.out HN1.out⟩
      · obtain rfl : k = 0 := by omega
        have hl0 : l.length = 0 := by omega
        rw [hl0] at hlenv ⊢
        have HR := Lib.hid (p_none (l := l))
        have HDd := Lib.hid HD.out.dk
        clear hkl hk0 hl0
        go_wp2_with fail
        refine (size_dk HDd.out (Gr.refl _) (⟨#[97]⟩ : ByteArray) (by decide)).mono ?_
        rintro e w3 ⟨rfl, rfl⟩
        rw [show (pSt l 0).read (⟨#[97]⟩ : ByteArray).data.toList = ([], 70) from HR.out.1]
        go_wp2_with (go_at_call 19; refine (names_dk HDd.out (Gr.refl _)).mono ?_; rintro e w7 ⟨v7, rfl, hrow, hg7⟩; rw [HR.out.2] at hrow; obtain ⟨q7, c7, rfl⟩ := ownsRow_form hrow; have hls := fun W ty => len_strs (w := W) (q := q7) (n := ([] : List (List UInt8)).length) (c := c7) (ty := ty); simp only [List.length_nil] at hls ⊢)
        go_ret
        exact ⟨rfl, HG.out.trans hg7⟩
end Go.Proofs.Ytadbcikabpbogaa
