/- What the rows stand on, part 04: SkpD, Shelf. Printed by bundle.py out of my texts. -/
import Derived.Test.YthgecojbggoniaaGreatDoorBd02
import Derived.Shelf.Strings.Builder1
import Derived.Shelf.Strings.Builder2
import Derived.Shelf.Strings.BuilderF
import Derived.Shelf.Strings.Search1
import Derived.Shelf.Strings.Search2
import Derived.Shelf.Strings.Search3
import Derived.Shelf.Strings.Count
import Derived.Shelf.LaysM
import Derived.Shelf.Strings.Shaped
import Derived.Shelf.Strings.Split
import Derived.Shelf.Strings.Replace
import Derived.Shelf.Strings.SplitShaped
import Derived.Shelf.Unicode.DecodeSlow
import Derived.Ground.Names2Prog
import Derived.Shelf.Slices.SearchI
import Derived.Test.YthgecojbggoniaaGreatDoorProg
namespace Go.Proofs.YthgecojbggoniaaGreatDoor
open Go.RowKit
set_option maxRecDepth 100000
set_option linter.unusedVariables false
set_option linter.unusedSimpArgs false
set_option linter.unnecessarySimpa false

theorem chain_frozen {w : World} {X : Nat → List Nd} {P : List Nd} {n : Nd} {i : Nat} (h : ChainF w X P) (hn : n ∈ P) : w.frozen? ⟨n.blk, i, none⟩ = false := by
  obtain ⟨cs, hcs⟩ := chain_blk h n hn
  simp [World.frozen?, hcs]
theorem last_mem {h : Nd} {P : List Nd} {i : Nat} (hi : i < h.steps) : lastAt h P i ∈ h :: P := by
  obtain ⟨A, R, e, _⟩ := lastAt_split (h := h) (P := P) hi
  rw [e]; simp
theorem last_cell {w : World} {X : Nat → List Nd} {h : Nd} {P : List Nd} {j : Nat} (hc : ChainF w X (h :: P)) (hj : j < 16) (hh : j < h.steps) : w.cell? ⟨(lastAt h P j).blk, 3 + j, none⟩ = some (ptr (nxt (X j) j)) := by
  obtain ⟨A, R, e, hs, hR⟩ := lastAt_split (h := h) (P := P) hh
  rw [e] at hc
  rw [chain_cell hc hj hs, nxt_app, nxt_none hR]
  rfl
theorem mem_all {h x : Nd} {key : ByteArray} {L : List Nd} (hx : x ∈ h :: below key L) : x ∈ h :: L := by
  rcases List.mem_cons.1 hx with h | h
  · simp [h]
  · have : x ∈ L := by rw [← below_above key L]; exact List.mem_append_left _ h
    simp [this]
theorem PutInv.drew {lb H : Nat} {S : Nat → Prop} {L : List Nd} {nn : Nd} {w0 w : World} {k : Nat} (h : PutInv lb H S L nn w0 w k) : PutInv lb H S L nn w0 w.drew k :=
  ⟨chainF_blk h.c1 (fun _ _ _ ho => ho), chainF_blk h.c2 (fun _ _ _ ho => ho), h.c3, h.list, ⟨h.fr.os, h.fr.tape, h.fr.output, h.fr.size, h.fr.blk⟩⟩
theorem PutInv.ends {lb H : Nat} {S : Nat → Prop} {L : List Nd} {nn : Nd} {w w1 : World} {k : Nat} (h : PutInv lb H S L nn w w1 k) (h0 : SkipAt lb H S L w) (hs : 1 ≤ nn.steps ∧ nn.steps ≤ 16) (hk : k = nn.steps) (hnew : getN nn.key L = none) (hB : w.heap.size ≤ nn.blk) :
    SkipAt lb H (UpS S w) (below nn.key L ++ nn :: above nn.key L) (w1.setCell ⟨lb, 1, none⟩ (.int .i64 ((L.length : Int) + 1))) ∧ FrT (UpS S w) w (w1.setCell ⟨lb, 1, none⟩ (.int .i64 ((L.length : Int) + 1))) := by
  subst hk
  rw [show ((L.length : Int) + 1) = ((L.length + 1 : Nat) : Int) by omega]
  have hne : ∀ b cs, w1.heap[b]? = some (.cells cs 150) → lb ≠ b := fun b cs hb e => by
    rw [← e, h.list] at hb
    simp at hb
  have hc : ∀ {X : Nat → List Nd} {P : List Nd}, ChainF w1 X P → ChainF (w1.setCell ⟨lb, 1, none⟩ (.int .i64 ((L.length + 1 : Nat) : Int))) X P := fun hx => chainF_blk hx (fun n hn o ho => by
    obtain ⟨cs, hcs⟩ := chain_blk hx n hn
    exact heap_set_other ho _ _ (hne _ _ hcs))
  refine ⟨h0.add nn hs hnew hB (fun _ h => .inl h) (.inr hB) ?_ (hc h.c1) (hc h.c2) ?_, ?_⟩
  · have := heap_set h.list 1 (.int .i64 ((L.length + 1 : Nat) : Int))
    exact this
  · refine heap_set_other ?_ _ _ (hne _ _ h.c3)
    rw [h.c3]
    congr 3
    funext i
    unfold up
    split <;> rfl
  · refine ⟨h.fr.os, h.fr.tape, h.fr.output, by simpa using h.fr.size, fun j o ho hn => ?_⟩
    refine heap_set_other (h.fr.blk j o ho hn) _ _ (fun e => ?_)
    simp only at e
    subst e
    have h5 := h.fr.blk lb o ho hn
    rw [h.list] at h5
    cases h5
    exact hn (.inl h0.sl) ⟨_, _, .inr rfl⟩
set_option maxHeartbeats 4000000 in
theorem put_new {lb H : Nat} {S : Nat → Prop} {L : List Nd} {w : World} (h : SkipAt lb H S L w) (key val : ByteArray) (s : Nat) (hs : 1 ≤ s ∧ s ≤ 16) (hlen : L.length < 4611686018427387904) (hnew : getN key L = none) :
    Calls Tryz.prog 56 #[.pointer (some ⟨lb, 0, none⟩), .string key, .string val, .int .i64 s] w fun e w' => e = .returned (.bool true) ∧ (∃ nn, nn.key = key ∧ nn.val = val ∧ SkipAt lb H (UpS S w) (below key L ++ nn :: above key L) w') ∧ FrT (UpS S w) w w' := by
  have HH := Lib.hid h
  have HN := Lib.hid (none_skip h.list)
  have hf := find_sk h key
  rw [hnew] at hf
  have HF := Lib.hid hf
  have HNW := Lib.hid hnew
  obtain ⟨hs1, hs2⟩ := hs
  clear h hnew hf
  go_enter Tryz.func56, Tryz.ntmps56
  simp only [ptr] at HF
  go_wp2_with (first | (go_at_call 85; refine HN.out.mono ?_; rintro e w1 ⟨rfl, rfl⟩) | (go_at_call 81; refine HF.out.mono ?_; rintro e w1 ⟨rfl, hg1⟩; have HG1 := Lib.hid hg1; clear hg1) | fail)
  have HA := Lib.hid (HH.out.gr (HG1.out.alloc (Obj.cells (nodeA ⟨w1.heap.size, key, val, s⟩ (fun i => .pointer none)) 150)))
  refine (ahead_any HA.out key).mono ?_
  rintro e w2 ⟨rfl, hg2⟩
  have HG2 := Lib.hid hg2
  clear hg2
  have HI0 : Hid (PutInv lb H S L ⟨w1.heap.size, key, val, s⟩ w w2 0) := by
    have hg := (HG1.out.alloc (Obj.cells (nodeA ⟨w1.heap.size, key, val, s⟩ (fun i => .pointer none)) 150)).trans HG2.out
    have hh := HH.out.gr hg
    have hc := hh.chain
    rw [← below_above key L, ← List.cons_append] at hc
    obtain ⟨p1, p2⟩ := chainF_app.1 hc
    exact Lib.hid ⟨by simpa using p1, p2, by simpa using HG2.out.blk (heap_alloc_new w1 _), hh.list, FrT.gr hg⟩
  have HND := Lib.hid HH.out.nd
  have HLT : Hid (∀ n ∈ hd0 H :: L, n.blk ≠ w1.heap.size) := Lib.hid (fun n hn => by
    have := chain_lt HH.out.chain n hn
    have := HG1.out.size
    omega)
  have HW1 := Lib.hid HG1.out.size
  generalize hB : w1.heap.size = B at *
  clear HA HG2 HG1 hB
  go_wp2
  go_loopw [40] (fun iv wr => ∃ k : Nat, iv = .int .i64 k ∧ k ≤ s ∧ k ≤ 16 ∧ Hid (PutInv lb H S L ⟨B, key, val, s⟩ w wr k)) (fun iv _ => 16 - (intOf iv).toNat)
  case atStart => exact ⟨0, rfl, by omega, by omega, HI0⟩
  case round =>
    obtain ⟨k, rfl, hk1, hk2, HI⟩ := hrel
    clear HI0
    by_cases hk : k < s
    · have hk16 : k < 16 := by omega
      have hix := run_index (hd0 H) (below key L) k hk16
      have HS := Lib.hid (HI.out.step hk hk16 HND.out HLT.out HH.out.sn HW1.out HH.out.sl)
      have c1 := last_cell HI.out.c1 hk16 (by simp [hd0]; exact hk16)
      have f1 := chain_frozen (i := 3 + k) HI.out.c1 (last_mem (h := hd0 H) (P := below key L) (i := k) (by simp [hd0]; exact hk16))
      have c2 := cell_of HI.out.c3 (i := 3 + k) (nodeA_get hk16)
      have f2 : wr.frozen? ⟨B, 3 + k, none⟩ = false := by simp [World.frozen?, HI.out.c3]
      have hne : (lastAt (hd0 H) (below key L) k).blk ≠ B := HLT.out _ (mem_all (last_mem (by simp [hd0]; exact hk16)))
      simp only [Nat.lt_irrefl, if_false] at c1 c2
      have hks : ((k : Int) == (s : Int)) = false := by rw [beq_eq_false_iff_ne]; omega
      generalize outA (hd0 H) (below key L) 0 = oa at *
      generalize (lastAt (hd0 H) (below key L) k).blk = ab at *
      have hne2 : B ≠ ab := fun e => hne e.symm
      cases hn : nxt (above key L) k with
      | none =>
        rw [hn] at c1 HS
        simp only [ptr] at c1 HS
        go_wp2
        go_region
        go_wp2
        go_roundw
        case rel => exact ⟨k + 1, by go_num, by omega, by omega, Lib.hid HS.out.drew⟩
        case measure => first | (simp [intOf]; done) | (simp [intOf]; omega)
      | some n =>
        rw [hn] at c1 HS
        simp only [ptr] at c1 HS
        go_wp2
        go_region
        go_wp2
        go_roundw
        case rel => exact ⟨k + 1, by go_num, by omega, by omega, Lib.hid HS.out.drew⟩
        case measure => first | (simp [intOf]; done) | (simp [intOf]; omega)
    · obtain rfl : k = s := by omega
      have hl1 := cell_of HI.out.list (i := 1) rfl
      have hl2 : wr.frozen? ⟨lb, 1, none⟩ = false := by simp [World.frozen?, HI.out.list]
      have HE := Lib.hid (HI.out.ends HH.out ⟨hs1, hs2⟩ rfl HNW.out HW1.out)
      by_cases h16 : k < 16
      · have hix := run_index (hd0 H) (below key L) k h16
        generalize outA (hd0 H) (below key L) 0 = oa at *
        go_wp2
        go_ret
        exact ⟨rfl, ⟨_, rfl, rfl, HE.out.1⟩, HE.out.2⟩
      · obtain rfl : k = 16 := by omega
        go_wp2
        go_ret
        exact ⟨rfl, ⟨_, rfl, rfl, HE.out.1⟩, HE.out.2⟩
end Go.Proofs.YthgecojbggoniaaGreatDoor
namespace Go.Proofs
open Go.Shelf
open Go.RowKit in
open Go.RowKit in
open Go.RowKit in
open Go.RowKit in
open Go.RowKit in
open Go.RowKit in
open Go.RowKit in
open Go.RowKit in
open Go.RowKit Go.Lib in
open Go.RowKit Go.Lib in
open Go.RowKit Go.Lib in
open Go.RowKit Go.Lib in
open Go.RowKit Go.Lib in
open Go.RowKit Go.Lib in
open Go.RowKit Go.Lib in
open Go.RowKit Go.Lib in
open Go.RowKit Go.Lib in
open Go.RowKit Go.Lib in
open Go.RowKit Go.Lib in
open Go.RowKit Go.Lib in
open Go.RowKit Go.Lib in
open Go.RowKit Go.Lib in
open Go.RowKit Go.Lib in
open Go.RowKit Go.Lib in
open Go.RowKit Go.Lib in
open Go.RowKit Go.Lib in
open Go.RowKit Go.Lib in
open Go.RowKit Go.Lib in
def Tryz.laysM155_ren : Go.Shelf.Ren := ⟨fun | 155 => 122 | 154 => 132 | 138 => 137 | 165 => 138 | 143 => 139 | 166 => 140 | 197 => 141 | 169 => 142 | 195 => 143 | 218 => 144 | 240 => 145 | 241 => 146 | 219 => 147 | 260 => 148 | 276 => 149 | 277 => 150 | 217 => 151 | 225 => 152 | 224 => 153 | 267 => 154 | 266 => 155 | 314 => 156 | n => n, fun | 9 => 9 | 3 => 3 | 4 => 4 | 72 => 192 | 0 => 0 | 76 => 196 | 105 => 198 | 21 => 21 | 5 => 5 | 70 => 190 | 20 => 20 | 37 => 133 | 75 => 195 | 127 => 201 | 164 => 202 | 46 => 155 | 119 => 205 | 139 => 208 | 138 => 207 | 146 => 210 | 51 => 209 | 80 => 136 | n => n, fun | 1 => 0 | 3 => 1 | 4 => 2 | n => n⟩
theorem Tryz.laysM155 : Go.Proofs.LaysM.n155 Tryz.prog Tryz.laysM155_ren := {
  mixed := by kernel_rfl
  f138 := Tryz.func137.trans (congrArg some (by kernel_rfl))
  f143 := Tryz.func139.trans (congrArg some (by kernel_rfl))
  f154 := Tryz.func132.trans (congrArg some (by kernel_rfl))
  f155 := Tryz.func122.trans (congrArg some (by kernel_rfl))
  f165 := Tryz.func138.trans (congrArg some (by kernel_rfl))
  f166 := Tryz.func140.trans (congrArg some (by kernel_rfl))
  f169 := Tryz.func142.trans (congrArg some (by kernel_rfl))
  f195 := Tryz.func143.trans (congrArg some (by kernel_rfl))
  f197 := Tryz.func141.trans (congrArg some (by kernel_rfl))
  f217 := Tryz.func151.trans (congrArg some (by kernel_rfl))
  f218 := Tryz.func144.trans (congrArg some (by kernel_rfl))
  f219 := Tryz.func147.trans (congrArg some (by kernel_rfl))
  f224 := Tryz.func153.trans (congrArg some (by kernel_rfl))
  f225 := Tryz.func152.trans (congrArg some (by kernel_rfl))
  f240 := Tryz.func145.trans (congrArg some (by kernel_rfl))
  f241 := Tryz.func146.trans (congrArg some (by kernel_rfl))
  f260 := Tryz.func148.trans (congrArg some (by kernel_rfl))
  f266 := Tryz.func155.trans (congrArg some (by kernel_rfl))
  f267 := Tryz.func154.trans (congrArg some (by kernel_rfl))
  f276 := Tryz.func149.trans (congrArg some (by kernel_rfl))
  f277 := Tryz.func150.trans (congrArg some (by kernel_rfl))
  f314 := Tryz.func156.trans (congrArg some (by kernel_rfl))
  t0 := Tryz.underlying0
  a0 := Tryz.isAgg0
  z0 := Tryz.sizeOf0
  v0 := Tryz.zeroValue0
  t3 := Tryz.underlying3
  a3 := Tryz.isAgg3
  z3 := Tryz.sizeOf3
  v3 := Tryz.zeroValue3
  t4 := Tryz.underlying4
  a4 := Tryz.isAgg4
  z4 := Tryz.sizeOf4
  v4 := Tryz.zeroValue4
  t5 := Tryz.underlying5
  a5 := Tryz.isAgg5
  z5 := Tryz.sizeOf5
  v5 := Tryz.zeroValue5
  t9 := Tryz.underlying9
  a9 := Tryz.isAgg9
  z9 := Tryz.sizeOf9
  v9 := Tryz.zeroValue9
  t20 := Tryz.underlying20
  a20 := Tryz.isAgg20
  z20 := Tryz.sizeOf20
  v20 := Tryz.zeroValue20
  t21 := Tryz.underlying21
  a21 := Tryz.isAgg21
  z21 := Tryz.sizeOf21
  v21 := Tryz.zeroValue21
  t37 := Tryz.underlying133
  a37 := Tryz.isAgg133
  z37 := Tryz.sizeOf133
  v37 := Tryz.zeroValue133
  t46 := Tryz.underlying155
  a46 := Tryz.isAgg155
  z46 := Tryz.sizeOf155
  v46 := Tryz.zeroValue155
  t51 := Tryz.underlying209
  a51 := Tryz.isAgg209
  z51 := Tryz.sizeOf209
  v51 := Tryz.zeroValue209
  t70 := Tryz.underlying190
  a70 := Tryz.isAgg190
  z70 := Tryz.sizeOf190
  v70 := Tryz.zeroValue190
  t72 := Tryz.underlying192
  a72 := Tryz.isAgg192
  z72 := Tryz.sizeOf192
  v72 := Tryz.zeroValue192
  t75 := Tryz.underlying195
  a75 := Tryz.isAgg195
  z75 := Tryz.sizeOf195
  v75 := Tryz.zeroValue195
  t76 := Tryz.underlying196
  a76 := Tryz.isAgg196
  z76 := Tryz.sizeOf196
  v76 := Tryz.zeroValue196
  t105 := Tryz.underlying198
  a105 := Tryz.isAgg198
  z105 := Tryz.sizeOf198
  v105 := Tryz.zeroValue198
  t119 := Tryz.underlying205
  a119 := Tryz.isAgg205
  z119 := Tryz.sizeOf205
  t127 := Tryz.underlying201
  a127 := Tryz.isAgg201
  z127 := Tryz.sizeOf201
  v127 := Tryz.zeroValue201
  t138 := Tryz.underlying207
  a138 := Tryz.isAgg207
  z138 := Tryz.sizeOf207
  v138 := Tryz.zeroValue207
  t139 := Tryz.underlying208
  a139 := Tryz.isAgg208
  z139 := Tryz.sizeOf208
  v139 := Tryz.zeroValue208
  t146 := Tryz.underlying210
  a146 := Tryz.isAgg210
  z146 := Tryz.sizeOf210
  v146 := Tryz.zeroValue210
  t164 := Tryz.underlying202
  a164 := Tryz.isAgg202
  z164 := Tryz.sizeOf202
  v164 := Tryz.zeroValue202
  g1 := by kernel_rfl
  g3 := by kernel_rfl
  g4 := by kernel_rfl
  t80 := Tryz.underlying136
  a80 := Tryz.isAgg136
  z80 := Tryz.sizeOf136
  v80 := Tryz.zeroValue136
  i0 := by kernel_rfl
  i3 := by kernel_rfl
  i4 := by kernel_rfl
  i5 := by kernel_rfl
  i9 := by kernel_rfl
  i20 := by kernel_rfl
  i21 := by kernel_rfl
  i37 := by kernel_rfl
  i46 := by kernel_rfl
  i51 := by kernel_rfl
  i70 := by kernel_rfl
  i72 := by kernel_rfl
  i75 := by kernel_rfl
  i76 := by kernel_rfl
  i80 := by kernel_rfl
  i105 := by kernel_rfl
  i127 := by kernel_rfl
  i138 := by kernel_rfl
  i139 := by kernel_rfl
  i146 := by kernel_rfl
  i164 := by kernel_rfl
  m1 := by kernel_rfl
  s1_3 := fun w h => Go.Proofs.cell_of_shapedOpen_int (zero := #[.int .i64 0]) (t := 3) h (of_decide_eq_true (by kernel_rfl)) (by kernel_rfl) rfl (by kernel_rfl) (by kernel_rfl) Tryz.underlying3
  m3 := by kernel_rfl
  m4 := by kernel_rfl }
theorem Tryz.Builder_Extra_M155 : Builder.Extra Tryz.prog Tryz.laysM155_ren := {
  sizeBuilder := by kernel_rfl
  liesBuilder := by kernel_rfl
  t5 := Tryz.underlying5
  a5 := Tryz.isAgg5
  z5 := Tryz.sizeOf5
  v5 := Tryz.zeroValue5
  infoByte := by kernel_rfl
  cellsByte := by kernel_rfl
  sizeByte := by kernel_rfl
  neB5 := by decide }
open Go.RowKit Go.Lib in
/-- strings.ReplaceAll, old not empty. (LAID: no walk: one application.) -/
theorem Tryz.strings_ReplaceAll_shaped (s old new : ByteArray) (w : World) (h : w.ShapedOpen Tryz.prog) (hs : s.size < 4294967281) (h1 : 1 ≤ old.size) (hlen : s.size + Lib.countB s old * new.size ≤ 140737488355328) :
    Calls Tryz.prog 122 #[.string s, .string old, .string new] w fun e w' =>
      e = .returned (.string ⟨(Lib.replaceAll s.data.toList old.data.toList new.data.toList).toArray⟩) ∧ Below w.heap.size w w' := Any.strings_ReplaceAll_shaped Tryz.laysM155 Tryz.Builder_Extra_M155 s old new w h hs h1 hlen
open Go.RowKit Go.Lib in
def Tryz.laysNm237_ren : Go.Shelf.Ren := ⟨fun | 37 => 120 | n => n, fun | 3 => 3 | 4 => 4 | n => n, fun | n => n⟩
theorem Tryz.laysNm237 : Go.Proofs.Lays2.n37 Tryz.prog Tryz.laysNm237_ren := {
  mixed := by kernel_rfl
  f37 := Tryz.func120.trans (congrArg some (by kernel_rfl))
  t3 := Tryz.underlying3
  a3 := Tryz.isAgg3
  z3 := Tryz.sizeOf3
  v3 := Tryz.zeroValue3
  t4 := Tryz.underlying4
  a4 := Tryz.isAgg4
  z4 := Tryz.sizeOf4
  v4 := Tryz.zeroValue4 }
open Go.RowKit Go.Lib in
/-- cmp.isNaN[int]: 'x != x': false. (LAID: no walk: one application.) -/
theorem Tryz.cmp_isNaN_int2 (x : Int) (w : World) :
    Calls Tryz.prog 120 #[.int .i64 x] w fun e w' => e = .returned (.bool false) ∧ w' = w := Any.cmp_isNaN_int2 Tryz.laysNm237 x w
end Go.Proofs
