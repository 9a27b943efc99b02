/- Layer 7: Crash: the walk. -/
import Derived.Test.YtadbcikabpbogaaDskC
namespace Go.Proofs.Ytadbcikabpbogaa
open Go.RowKit Go.Maps Go.Sort
set_option maxRecDepth 100000
set_option linter.unusedVariables false
set_option linter.unusedSimpArgs false

/-- numbers that are read, apart from what of the disk turns -/
structure KeepAt (S : Nat → Prop) (w : World) (v : Value) (l : List Int) : Prop where
  rd : RdI w v l
  ty : ∀ g, v.ownBlock = some g → l ≠ [] → ¬ S g ∨ ∃ cs fz, w.heap[g]? = some (.cells cs 3 fz)
  bd : ∀ x ∈ l, -9223372036854775808 ≤ x ∧ x ≤ 9223372036854775807
theorem RdI.form {w : World} {v : Value} {l : List Int} (h : RdI w v l) : ∃ q c, v = .slice q l.length c := by
  rcases h with ⟨rfl, q, c, rfl, _⟩ | ⟨blk, off, cap, rfl, _⟩
  · exact ⟨q, c, rfl⟩
  · exact ⟨_, _, rfl⟩
theorem RdI.at {w : World} {v : Value} {l : List Int} (h : RdI w v l) {k : Nat} (hk : k < l.length) : ∃ blk off cap, v = .slice (some ⟨blk, off, none⟩) l.length cap ∧ l.length ≤ cap ∧ cap ≤ maxLen ∧ w.cell? ⟨blk, off + k, none⟩ = some (.int .i64 l[k]) := by
  rcases h with ⟨rfl, _⟩ | ⟨blk, off, cap, rfl, h0, h1, h2, h3, h4⟩
  · simp at hk
  · obtain ⟨ds, d1, d2, d3⟩ := h4 k hk
    unfold RE at d3
    subst d3
    have := d2 0 (by simp)
    exact ⟨blk, off, cap, rfl, h1, h2, by simpa using this⟩
theorem KeepAt.fr {S : Nat → Prop} {w w' : World} {v : Value} {l : List Int} (h : KeepAt S w v l) (hb : ∀ g o, w.heap[g]? = some o → (¬ S g ∨ ∃ cs fz, o = .cells cs 3 fz) → w'.heap[g]? = some o) : KeepAt S w' v l := by
  by_cases hl : l = []
  · subst hl
    refine ⟨?_, fun g hg hne => absurd rfl hne, h.bd⟩
    rcases h.rd with h1 | ⟨blk, off, cap, h1, h2, _⟩
    · exact .inl h1
    · simp at h2
  refine ⟨RdI.blk h.rd (fun g o hg ho => hb g o ho ?_), fun g hg hne => ?_, h.bd⟩
  · rcases h.ty g hg hl with h1 | ⟨cs, fz, h2⟩
    · exact .inl h1
    · exact .inr ⟨cs, fz, by rw [ho] at h2; exact Option.some.inj h2⟩
  · rcases h.ty g hg hne with h1 | ⟨cs, fz, h2⟩
    · exact .inl h1
    · exact .inr ⟨cs, fz, hb g _ h2 (.inr ⟨cs, fz, rfl⟩)⟩
theorem len_int {w : World} {q : Option Addr} {n c : Nat} {ty : TypeId} : (Builtin.len_ #[22] ty #[.slice q n c]).run Try.prog w = .ok (.int .i64 n) w := by
  cases q <;> simp [Builtin.len_, run_underlying Try.underlying22, go_sem]
theorem size_toArr (l : List UInt8) : (⟨l.toArray⟩ : ByteArray).size = l.length := by simp [ByteArray.size]
theorem len_u8 {w : World} {q : Option Addr} {n c : Nat} {ty : TypeId} : (Builtin.len_ #[30] ty #[.slice q n c]).run Try.prog w = .ok (.int .i64 n) w := by
  cases q <;> simp [Builtin.len_, run_underlying Try.underlying30, go_sem]
theorem rem_twice (x n : Int) (hn : 0 < n) : (x.tmod n + n).tmod n = x % n := by
  have h1 := Int.emod_nonneg x (by omega : n ≠ 0)
  have h2 := Int.emod_lt_of_pos x hn
  rcases Int.le_total 0 x with h | h
  · rw [Int.tmod_eq_emod_of_nonneg h, Int.tmod_eq_emod_of_nonneg (by omega), Int.add_emod_right, Int.emod_emod]
  · have h3 : x.tmod n = -((-x) % n) := by
      rw [show x = -(-x) by omega, Int.neg_tmod, Int.tmod_eq_emod_of_nonneg (by omega), Int.neg_neg]
    have h4 := Int.emod_nonneg (-x) (by omega : n ≠ 0)
    have h5 := Int.emod_lt_of_pos (-x) hn
    have e : x % n = (-((-x) % n)) % n := by
      have h6 := Int.mul_ediv_add_emod (-x) n
      have h7 : x = -((-x) % n) + n * (-((-x) / n)) := by rw [Int.mul_neg]; omega
      rw [h7, Int.add_mul_emod_self_left]
      rw [← h7]
    rw [h3, Int.tmod_eq_emod_of_nonneg (by omega), Int.add_emod_right, e]

/-- names that lie in a row -/
def NamesAt (w : World) (q : Option Addr) (L : List FB) : Prop := L.length = 0 ∨ ∃ g cur, q = some ⟨g, 0, none⟩ ∧ w.heap[g]? = some (.cells cur 9 (0, 0)) ∧ ∀ (k : Nat) (hk : k < L.length), cur[k]? = some (.string ⟨L[k].f.nm.toArray⟩)
theorem NamesAt.of_row {w : World} {N : Nat} {q : Option Addr} {c : Nat} {L : List FB} (h : w.ownsRow N 9 1 (.slice q L.length c) L.length ((L.map FB.nm).map encStr)) : NamesAt w q L := by
  rcases h.2 with ⟨_, hn⟩ | ⟨g, cap, cur, h1, h2, h3, h4, h5, h6, h7⟩
  · exact .inl hn
  · cases h1
    refine .inr ⟨g, cur, rfl, h3, fun k hk => ?_⟩
    have e : (cur.toList.take (L.length * 1))[k]? = ((L.map FB.nm).map encStr)[k]? := by rw [h7]
    rw [List.getElem?_take, if_pos (by omega)] at e
    simp only [List.map_map, List.getElem?_map, List.getElem?_eq_getElem hk, Option.map_some, Array.getElem?_toList] at e
    exact e
theorem NamesAt.blk {w w' : World} {q : Option Addr} {L : List FB} (h : NamesAt w q L) (hb : ∀ (g : Nat) (cs : Array Value) (fz : Nat × Nat), w.heap[g]? = some (Obj.cells cs 9 fz) → w'.heap[g]? = some (Obj.cells cs 9 fz)) : NamesAt w' q L := by
  rcases h with h | ⟨g, cur, h1, h2, h3⟩
  · exact .inl h
  · exact .inr ⟨g, cur, h1, hb _ _ _ h2, h3⟩
theorem NamesAt.cell {w : World} {q : Option Addr} {L : List FB} (h : NamesAt w q L) {k : Nat} (hk : k < L.length) : ∃ g, q = some ⟨g, 0, none⟩ ∧ w.cell? ⟨g, k, none⟩ = some (.string ⟨L[k].f.nm.toArray⟩) := by
  rcases h with h | ⟨g, cur, h1, h2, h3⟩
  · omega
  · exact ⟨g, h1, by simp only [World.cell?, h2]; exact h3 k hk⟩
/-- one file crashes -/
theorem DiskAt.crash1 {D : Nat} {S : Nat → Prop} {st : DS} {L : List FB} {M : Nat} {kv : Value} {w w' : World} (h : DiskAt D S st L M kv w) {k : Nat} (hk : k < L.length) (kl : List Int) {q : Option Addr} {c : Nat} (hsv : L[k].sv = .slice q L[k].f.b.length c)
    (hcell : w'.heap[L[k].blk]? = some (.cells #[.slice q (crashOne kl k L[k].f).mark c, .int .i64 (crashOne kl k L[k].f).mark] 72)) (hoth : ∀ j o, j ≠ L[k].blk → w.heap[j]? = some o → w'.heap[j]? = some o)
    (hm : (crashOne kl k L[k].f).mark ≤ L[k].f.b.length) :
    DiskAt D S { st with fs := st.fs.set k (crashOne kl k L[k].f) } (L.set k ⟨crashOne kl k L[k].f, L[k].blk, .slice q (crashOne kl k L[k].f).mark c⟩) M kv w' := by
  have hf := h.file _ (List.getElem_mem hk)
  have hown := hf.own
  rw [hsv] at hown
  have hb : (crashOne kl k L[k].f).b = L[k].f.b.take (crashOne kl k L[k].f).mark := rfl
  have hown2 : Own w' 0 (.slice q L[k].f.b.length c) L[k].f.b := hown.blk (fun g o hg ho => hoth g o (by
    rintro rfl
    rcases hown.form with ⟨h1, _⟩ | ⟨g', cap, cur, h1, h2, h3, _⟩
    · rw [h1] at hg; cases hg
    · rw [h1] at hg
      simp only [Value.ownBlock, Option.some.injEq] at hg
      rw [hg, hf.cell] at h3
      simp at h3) ho)
  refine h.upd hk ⟨crashOne kl k L[k].f, L[k].blk, .slice q (crashOne kl k L[k].f).mark c⟩ rfl rfl (by rw [hsv]; cases q <;> rfl) hcell ?_ ?_ hoth ?_
  · show Own w' 0 (.slice q (crashOne kl k L[k].f).mark c) (crashOne kl k L[k].f).b
    rw [hb]
    exact hown2.take _ hm
  · show (crashOne kl k L[k].f).mark ≤ (crashOne kl k L[k].f).b.length
    rw [hb, List.length_take]; omega
  · show (crashOne kl k L[k].f).b.length ≤ _
    rw [hb, List.length_take]; omega
theorem crashOne_bd (kl : List Int) (k : Nat) (f : DF) (hm : f.mark ≤ f.b.length) : f.mark ≤ (crashOne kl k f).mark ∧ (crashOne kl k f).mark ≤ f.b.length := by
  unfold crashOne
  simp only
  split
  · rename_i x hx
    have h1 := Int.emod_nonneg x (show ((f.b.length : Int) - f.mark + 1) ≠ 0 by omega)
    have h2 := Int.emod_lt_of_pos x (show 0 < ((f.b.length : Int) - f.mark + 1) by omega)
    have h3 : (x % ((f.b.length : Int) - f.mark + 1)).toNat ≤ f.b.length - f.mark := by rw [Int.toNat_le]; omega
    exact ⟨Nat.le_add_right _ _, Nat.le_trans (Nat.add_le_add_left h3 _) (by omega)⟩
  · omega

/-- the disk's own cells turn -/
theorem DiskAt.setD {D : Nat} {S : Nat → Prop} {st : DS} {L : List FB} {M : Nat} {kv : Value} {w w' : World} (h : DiskAt D S st L M kv w) (a : Bool) (l : Int) (hl : -1 ≤ l ∧ l ≤ 9223372036854775807) (hc : w'.heap[D]? = some (.cells #[.map (some M), .bool a, .int .i64 l, kv] 67))
    (ho : ∀ j o, j ≠ D → w.heap[j]? = some o → w'.heap[j]? = some o) : DiskAt D S { st with dead := a, left := l } L M kv w' := by
  have hcl := h.cell
  have key : ∀ {j : Nat} {cs : Array Value} {t : TypeId} {fz : Nat × Nat}, w.heap[j]? = some (.cells cs t fz) → t ≠ 67 → w'.heap[j]? = some (.cells cs t fz) := fun {j cs t fz} hj ht => ho _ _ (by
    rintro rfl
    rw [hcl] at hj
    simp only [Option.some.injEq, Obj.cells.injEq] at hj
    exact ht hj.2.1.symm) hj
  refine { h with cell := hc, map := ownsMap_blk h.map (fun o ho' => ho _ _ ?_ ho'), file := fun x hx => ?_, keep := RdI.blk h.keep (fun g o hg ho' => ?_), keepS := fun g hg => ?_, left := hl }
  · rintro rfl
    obtain ⟨es, clock, hb, _⟩ := h.map
    rw [hcl] at hb; simp at hb
  · have hf := h.file x hx
    refine ⟨key hf.cell (by decide), ⟨hf.own.1, ?_⟩, hf.mark, hf.sb, hf.sg⟩
    rcases hf.own.2 with h1 | ⟨g, cap, cur, h1, h2, h3, h4⟩
    · exact .inl h1
    · exact .inr ⟨g, cap, cur, h1, h2, key h3 (by decide), h4⟩
  · obtain ⟨_, cs, fz, h2⟩ := h.keepS g hg
    rw [ho'] at h2
    cases h2
    exact key ho' (by decide)
  · obtain ⟨h1, cs, fz, h2⟩ := h.keepS g hg
    exact ⟨h1, cs, fz, key h2 (by decide)⟩
theorem Rd.slice' {w : World} {v : Value} {l : List UInt8} (h : Rd w v l) : ∃ (q : Option Addr) (n c : Nat), v = .slice q n c := by
  rcases h with ⟨_, q, c, rfl, _⟩ | ⟨blk, off, cap, rfl, _⟩
  · exact ⟨_, _, _, rfl⟩
  · exact ⟨_, _, _, rfl⟩
theorem le_sum_mem : ∀ {l : List Nat} {a : Nat}, a ∈ l → a ≤ l.sum
  | [], _, h => by simp at h
  | b :: r, a, h => by
    rcases List.mem_cons.1 h with rfl | h
    · simp
    · have := le_sum_mem h; simp; omega
theorem allF_mem {L : List FB} {fs : List DF} (h : L.map FB.f = fs) {k : Nat} (hk : k < L.length) : L[k].f.b.length ≤ allF fs := by
  subst h
  unfold allF
  have : L[k].f.b.length ∈ (List.map (fun f : DF => f.b.length) (L.map FB.f)) := by
    simp only [List.map_map, List.mem_map]
    exact ⟨L[k], List.getElem_mem _, rfl⟩
  exact le_sum_mem this

set_option maxHeartbeats 4000000 in
theorem crash_live {D : Nat} {S : Nat → Prop} {st : DS} {L : List FB} {M : Nat} {kv : Value} {w : World} (h : DiskAt D S st L M kv w) (hd : st.dead = false) {ka : Value} {kl : List Int} (hk : KeepAt S w ka kl) :
    Calls Try.prog 23 #[.pointer (some ⟨D, 0, none⟩), ka] w fun e w' => e = .returned (.tuple #[]) ∧ (∃ L', DiskAt D S (st.crash kl) L' M kv w') ∧ Fr S w w' := by
  obtain ⟨kq, kc, rfl⟩ := hk.rd.form
  have HN := Lib.hid (none_any h.cell)
  have HSo := Lib.hid (sorted_call h.map (rise_FB h.fs h.rise) (by have := h.many; rw [← h.fs, List.length_map] at this; omega))
  have hLl : L.length = st.fs.length := by rw [← h.fs, List.length_map]
  have hm20 : L.length ≤ 20 := by rw [hLl]; exact h.many
  have HFS := Lib.hid hLl.symm
  have H := Lib.hid h
  clear hLl
  have HK := Lib.hid hk
  have hc := h.cell
  rw [hd] at hc
  have HC := Lib.hid hc
  obtain ⟨k_0, k_1, k_2, k_3, g_0, g_1, g_2, g_3, l_0⟩ := blk4 hc
  clear h hk hc
  go_enter Try.func23, Try.ntmps23
  go_wp2_with (first
    | (go_at_call 45; refine HN.out.mono ?_; rintro e w1 ⟨rfl, rfl⟩)
    | (go_at_call 47; refine (keys_call _ _).mono ?_; rintro e w1 ⟨rfl, rfl⟩)
    | (go_at_call 46; refine HSo.out.mono ?_; rintro e w2 ⟨v2, rfl, hrow, hg2⟩; (have HR := Lib.hid hrow); obtain ⟨q2, c2, rfl⟩ : ∃ q c, v2 = .slice q L.length c := (by rcases hrow.2 with ⟨rfl, hn⟩ | ⟨g, cap, cur, rfl, _⟩; exact ⟨none, 0, by rw [hn]⟩; exact ⟨_, _, rfl⟩); clear hrow))
  have HNm := Lib.hid (NamesAt.of_row HR.out)
  have HG2 := Lib.hid hg2
  clear HR HSo HN k_0 k_1 k_2 k_3 g_0 g_1 g_2 g_3 hg2
  go_loopw [23] (fun v wr => ∃ (k : Nat) (Lk : List FB), v = .int .i64 k ∧ k ≤ L.length ∧ Hid (Lk.map FB.nm = L.map FB.nm) ∧ Hid (DiskAt D S { st with fs := crashP kl k st.fs } Lk M kv wr) ∧ Hid (Fr S w wr) ∧ Hid (NamesAt wr q2 L) ∧ Hid (KeepAt S wr (.slice kq kl.length kc) kl)) (fun v _ => L.length - (intOf v).toNat)
  case atStart => exact ⟨0, L, rfl, Nat.zero_le _, Lib.hid rfl, Lib.hid (by rw [crashP_zero]; exact H.out.gr HG2.out), Lib.hid (Fr.gr HG2.out S), HNm, Lib.hid (HK.out.fr (fun g o ho _ => HG2.out.blk ho))⟩
  case round =>
    obtain ⟨k, Lk, rfl, hkL, HE, HD, HF, HNm, HK⟩ := hrel
    have hLk : Lk.length = L.length := by have := congrArg List.length HE.out; simpa using this
    by_cases hlt : k < L.length
    · obtain ⟨g, rfl, hnc⟩ := HNm.out.cell hlt
      have hkLk : k < Lk.length := by omega
      have hnmk : Lk[k].f.nm = L[k].f.nm := by
        have := congrArg (fun l => l[k]?) HE.out
        simpa [FB.nm, hlt, hLk] using this
      rw [← hnmk] at hnc
      have hfk := HD.out.file Lk[k] (List.getElem_mem _)
      have hlook := look_any HD.out.map ⟨Lk[k].f.nm.toArray⟩ (by rw [size_toArr]; have := HD.out.names Lk[k].f (by rw [← HD.out.fs]; exact List.mem_map_of_mem (List.getElem_mem _)); unfold maxLen; omega)
      have hgk := getK_of_mem (rise_FB HD.out.fs HD.out.rise) (List.getElem_mem (l := Lk) hkLk)
      change getK FB.nm Lk[k].f.nm Lk = _ at hgk
      rw [show (⟨Lk[k].f.nm.toArray⟩ : ByteArray).data.toList = Lk[k].f.nm by simp, hgk] at hlook
      simp only [ptrOf] at hlook
      have HX := Lib.hid hnmk
      have hown := hfk.own
      obtain ⟨bq, bn, bc, hsv⟩ := hown.rd.slice'
      rw [hsv] at hown
      obtain ⟨hbn, hbc, hbq⟩ := hown.len
      subst hbn
      have hcl := hfk.cell
      rw [hsv] at hcl
      have hmk := hfk.mark
      have hall : Lk[k].f.b.length ≤ 4194304 := Nat.le_trans (allF_mem HD.out.fs hkLk) HD.out.all
      have hbd := crashOne_bd kl k Lk[k].f hmk
      have HC1 := Lib.hid (fun w' => HD.out.crash1 (w' := w') hkLk kl hsv)
      have hcr : (crashOne kl k Lk[k].f).mark = Lk[k].f.mark + (match kl[k]? with | some x => (x % ((Lk[k].f.b.length : Int) - Lk[k].f.mark + 1)).toNat | none => 0) := rfl
      have HCR := Lib.hid hcr
      have hkfs : k < st.fs.length := by rw [HFS.out]; exact hlt
      have hxf : Lk[k].f = st.fs[k] := by
        have h1 := crashP_at kl k st.fs hkfs
        have h2 := HD.out.fs
        simp only at h2
        rw [← h2] at h1
        simpa [hkLk] using h1
      have HST : Hid (crashP kl (k + 1) st.fs = (crashP kl k st.fs).set k (crashOne kl k Lk[k].f)) := Lib.hid (by rw [hxf]; exact crashP_step kl k st.fs hkfs)
      have HNM : Hid (∀ sv, (Lk.set k ⟨crashOne kl k Lk[k].f, Lk[k].blk, sv⟩).map FB.nm = L.map FB.nm) := Lib.hid (fun sv => by
        rw [← HE.out]
        apply List.ext_getElem?
        intro j
        simp only [List.getElem?_map, List.getElem?_set]
        by_cases hkj : k = j
        · subst hkj; simp [hkLk, FB.nm, crashOne_nm]
        · simp [hkj])
      have HSB := Lib.hid hfk.sb
      clear hxf hkfs
      clear hgk hnmk hfk hown hsv hcr
      obtain ⟨k_0, k_1, k_2, k_3, g_0, g_1, g_2, g_3, l_0⟩ := blk4 HD.out.cell
      obtain ⟨f_0, f_1, fg_0, fg_1, fl_0⟩ := blk2 hcl
      have HCL := Lib.hid hcl
      clear hcl
      generalize hgx : Lk[k].blk = xb at *
      generalize hgm : Lk[k].f.mark = xm at *
      generalize hgb : Lk[k].f.b.length = xn at *
      generalize (⟨Lk[k].f.nm.toArray⟩ : ByteArray) = xs at *
      generalize hgc : crashOne kl k Lk[k].f = xc at *
      have HGX := Lib.hid hgx
      have HGM := Lib.hid hgm
      have HGB := Lib.hid hgb
      have HGC := Lib.hid hgc
      clear hgx hgm hgb hgc
      have hlen := fun ty => len_int (w := wr) (q := kq) (n := kl.length) (c := kc) (ty := ty)
      by_cases hkk : k < kl.length
      · obtain ⟨kb, ko, kcap, hke, hk1, hk2, hkc⟩ := HK.out.rd.at hkk
        simp only [Value.slice.injEq, true_and] at hke
        obtain ⟨rfl, rfl⟩ := hke
        have hzb := HK.out.bd _ (List.getElem_mem hkk)
        have hgz : kl[k]? = some kl[k] := List.getElem?_eq_getElem hkk
        rw [hgz] at HCR
        clear hgz
        generalize kl[k] = z at *
        go_wp2
        go_region
        go_wp2
        go_region
        go_wp2
        have hv : wrap64 ((xm : Int) + (wrap64 (z.tmod ((xn : Int) - xm + 1) + ((xn : Int) - xm + 1))).tmod ((xn : Int) - xm + 1)) = (xc.mark : Int) := by
          have h1 := Int.emod_nonneg z (show ((xn : Int) - xm + 1) ≠ 0 by omega)
          have h2 := Int.emod_lt_of_pos z (show 0 < ((xn : Int) - xm + 1) by omega)
          have h3 : z.tmod ((xn : Int) - xm + 1) < (xn : Int) - xm + 1 := Int.tmod_lt_of_pos _ (by omega)
          have h4 : -((xn : Int) - xm + 1) < z.tmod ((xn : Int) - xm + 1) := Int.lt_tmod_of_pos _ (by omega)
          rw [show wrap64 (z.tmod ((xn : Int) - xm + 1) + ((xn : Int) - xm + 1)) = z.tmod ((xn : Int) - xm + 1) + ((xn : Int) - xm + 1) by unfold wrap64; omega]
          rw [rem_twice z _ (by omega), HCR.out]
          have h5 := Int.toNat_of_nonneg h1
          simp only [HGB.out, HGM.out] at *
          unfold wrap64
          omega
        rw [hv]
        clear hv hzb
        obtain ⟨hb1, hb2⟩ := hbd
        have HB : Hid ((wr.setCell ⟨xb, 1, none⟩ (.int .i64 (xc.mark : Int))).drew.drew.heap[xb]? = some (.cells #[.slice bq xn bc, .int .i64 xc.mark] 72)) := Lib.hid (by simpa using heap_drew (heap_drew (heap_set HCL.out 1 (.int .i64 (xc.mark : Int)))))
        have HO0 : Hid (∀ j o, j ≠ xb → wr.heap[j]? = some o → (wr.setCell ⟨xb, 1, none⟩ (.int .i64 (xc.mark : Int))).drew.drew.heap[j]? = some o) := Lib.hid (fun j o hj ho => by simpa using heap_drew (heap_drew (heap_set_other ho ⟨xb, 1, none⟩ (.int .i64 (xc.mark : Int)) (fun e => hj e.symm))))
        generalize hmm : xc.mark = m2 at *
        have HMM := Lib.hid hmm
        clear hmm f_0 f_1 fg_0 fg_1
        obtain ⟨f_0, f_1, fg_0, fg_1, fl_1⟩ := blk2 HB.out
        have hbcm : m2 ≤ bc := by omega
        go_region
        go_wp2
        have HB3 : Hid (((wr.setCell ⟨xb, 1, none⟩ (.int .i64 (m2 : Int))).setCell ⟨xb, 0, none⟩ (.slice bq m2 bc)).drew.drew.drew.heap[xb]? = some (.cells #[.slice bq m2 bc, .int .i64 m2] 72)) := Lib.hid (heap_set HB.out 0 (.slice bq m2 bc))
        have HO3 : Hid (∀ j o, j ≠ xb → wr.heap[j]? = some o → ((wr.setCell ⟨xb, 1, none⟩ (.int .i64 (m2 : Int))).setCell ⟨xb, 0, none⟩ (.slice bq m2 bc)).drew.drew.drew.heap[j]? = some o) := Lib.hid (fun j o hj ho => heap_set_other (HO0.out j o hj ho) ⟨xb, 0, none⟩ (.slice bq m2 bc) (fun e => hj e.symm))
        have HFr : Hid (Fr S wr ((wr.setCell ⟨xb, 1, none⟩ (.int .i64 (m2 : Int))).setCell ⟨xb, 0, none⟩ (.slice bq m2 bc)).drew.drew.drew) := Lib.hid ⟨rfl, rfl, rfl, by simp, fun j o ho hn => HO3.out j o (fun e => hn (e ▸ HSB.out)) ho⟩
        go_roundw
        case rel =>
          refine ⟨k + 1, Lk.set k ⟨xc, xb, .slice bq m2 bc⟩, by go_num, by omega, Lib.hid (HNM.out _), Lib.hid (by rw [HST.out]; exact HC1.out _ HB3.out HO3.out (by omega)), Lib.hid (HF.out.trans HFr.out (fun _ h _ => h)), Lib.hid (HNm.out.blk (fun g' cs fz hg' => HO3.out _ _ (by rintro rfl; rw [HCL.out] at hg'; simp at hg') hg')), Lib.hid (HK.out.fr (fun g' o ho hor => HO3.out _ _ (by
            rintro rfl
            rcases hor with h1 | ⟨cs, fz, rfl⟩
            · exact h1 HSB.out
            · rw [HCL.out] at ho; simp at ho) ho))⟩
        case measure => (first | (simp [intOf]; done) | (simp [intOf]; omega))
      · have hgz : kl[k]? = none := List.getElem?_eq_none (by omega)
        rw [hgz] at HCR
        clear hgz
        have hxm : xc.mark = xm := by rw [HCR.out]; rfl
        replace HCR := Lib.hid hxm
        rw [← hxm] at f_1
        clear hxm
        go_wp2
        obtain ⟨hb1, hb2⟩ := hbd
        have HB : Hid (wr.heap[xb]? = some (.cells #[.slice bq xn bc, .int .i64 xc.mark] 72)) := Lib.hid (by rw [HCR.out]; exact HCL.out)
        have HO0 : Hid (∀ j o, j ≠ xb → wr.heap[j]? = some o → wr.heap[j]? = some o) := Lib.hid (fun j o hj ho => ho)
        generalize hmm : xc.mark = m2 at *
        have HMM := Lib.hid hmm
        clear hmm f_0 f_1 fg_0 fg_1
        obtain ⟨f_0, f_1, fg_0, fg_1, fl_1⟩ := blk2 HB.out
        have hbcm : m2 ≤ bc := by omega
        go_region
        go_wp2
        have HB3 : Hid ((wr.setCell ⟨xb, 0, none⟩ (.slice bq m2 bc)).drew.heap[xb]? = some (.cells #[.slice bq m2 bc, .int .i64 m2] 72)) := Lib.hid (heap_set HB.out 0 (.slice bq m2 bc))
        have HO3 : Hid (∀ j o, j ≠ xb → wr.heap[j]? = some o → (wr.setCell ⟨xb, 0, none⟩ (.slice bq m2 bc)).drew.heap[j]? = some o) := Lib.hid (fun j o hj ho => heap_set_other (HO0.out j o hj ho) ⟨xb, 0, none⟩ (.slice bq m2 bc) (fun e => hj e.symm))
        have HFr : Hid (Fr S wr (wr.setCell ⟨xb, 0, none⟩ (.slice bq m2 bc)).drew) := Lib.hid ⟨rfl, rfl, rfl, by simp, fun j o ho hn => HO3.out j o (fun e => hn (e ▸ HSB.out)) ho⟩
        go_roundw
        case rel =>
          refine ⟨k + 1, Lk.set k ⟨xc, xb, .slice bq m2 bc⟩, by go_num, by omega, Lib.hid (HNM.out _), Lib.hid (by rw [HST.out]; exact HC1.out _ HB3.out HO3.out (by omega)), Lib.hid (HF.out.trans HFr.out (fun _ h _ => h)), Lib.hid (HNm.out.blk (fun g' cs fz hg' => HO3.out _ _ (by rintro rfl; rw [HCL.out] at hg'; simp at hg') hg')), Lib.hid (HK.out.fr (fun g' o ho hor => HO3.out _ _ (by
            rintro rfl
            rcases hor with h1 | ⟨cs, fz, rfl⟩
            · exact h1 HSB.out
            · rw [HCL.out] at ho; simp at ho) ho))⟩
        case measure => (first | (simp [intOf]; done) | (simp [intOf]; omega))
    · obtain rfl : k = L.length := by omega
      obtain ⟨k_0, k_1, k_2, k_3, g_0, g_1, g_2, g_3, l_0⟩ := blk4 HD.out.cell
      have HCD := Lib.hid (heap_set (heap_set HD.out.cell 1 (.bool true)) 2 (.int .i64 (-1)))
      go_wp2
      go_end0
      have hcr : st.crash kl = { ({ st with fs := crashP kl L.length st.fs } : DS) with dead := true, left := -1 } := by
        unfold DS.crash
        rw [hd, if_neg (by simp), ← HFS.out, crashP_all]
      rw [hcr]
      refine ⟨rfl, ⟨Lk, HD.out.setD true (-1) (by omega) (by simpa using HCD.out) (fun j o hj ho => heap_set_other (heap_set_other ho _ _ (fun e => hj e.symm)) _ _ (fun e => hj e.symm))⟩, HF.out.trans (S' := S) ⟨rfl, rfl, rfl, by simp, fun j o ho hn => heap_set_other (heap_set_other ho _ _ (fun e => hn (e ▸ HD.out.sD))) _ _ (fun e => hn (e ▸ HD.out.sD))⟩ (fun _ h _ => h)⟩
theorem crash_dead {D : Nat} {S : Nat → Prop} {st : DS} {L : List FB} {M : Nat} {kv : Value} {w : World} (h : DiskAt D S st L M kv w) (hd : st.dead = true) (ka : Value) :
    Calls Try.prog 23 #[.pointer (some ⟨D, 0, none⟩), ka] w fun e w' => e = .returned (.tuple #[]) ∧ w = w' := by
  have HN := Lib.hid (none_any h.cell)
  have hc := h.cell
  rw [hd] at hc
  obtain ⟨k_0, k_1, k_2, k_3, g_0, g_1, g_2, g_3, l_0⟩ := blk4 hc
  clear h hc
  go_enter Try.func23, Try.ntmps23
  go_wp2_with (go_at_call 45; refine HN.out.mono ?_; rintro e w1 ⟨rfl, rfl⟩)
  refine bodyPost_ret (results_none rfl _ _ _) rfl ?_
  exact ⟨rfl, rfl⟩
theorem crash_any {D : Nat} {S : Nat → Prop} {st : DS} {L : List FB} {M : Nat} {kv : Value} {w : World} (h : DiskAt D S st L M kv w) {ka : Value} {kl : List Int} (hk : KeepAt S w ka kl) :
    Calls Try.prog 23 #[.pointer (some ⟨D, 0, none⟩), ka] w fun e w' => e = .returned (.tuple #[]) ∧ (∃ L', DiskAt D S (st.crash kl) L' M kv w') ∧ Fr S w w' := by
  cases hd : st.dead with
  | false => exact crash_live h hd hk
  | true =>
    refine (crash_dead h hd ka).mono ?_
    rintro e w' ⟨rfl, rfl⟩
    refine ⟨rfl, ⟨L, ?_⟩, Fr.refl _ _⟩
    unfold DS.crash
    rw [if_pos hd]
    exact h
end Go.Proofs.Ytadbcikabpbogaa
