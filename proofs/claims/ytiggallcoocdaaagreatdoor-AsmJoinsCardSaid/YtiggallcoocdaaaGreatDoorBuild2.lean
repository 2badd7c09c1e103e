/- A strings.Builder of the call's own, its buffer from B on: writers that say which blocks stay; Len. -/
import Derived.Test.YtiggallcoocdaaaGreatDoorBuild
import Derived.Test.YtiggallcoocdaaaGreatDoorZ3
import Derived.Test.YtiggallcoocdaaaGreatDoorEach
namespace Go.Proofs.YtiggallcoocdaaaGreatDoor
open Go.RowKit
/-- the builder in block b, its buffer's blocks from B on -/
structure BlA (b B : Nat) (l : List UInt8) (w : World) : Prop where
  lt : b < B
  size : B ≤ w.heap.size
  ex : ∃ p v, w.heap[b]? = some (.cells #[p, v] 76) ∧ (p = .pointer none ∨ p = .pointer (some ⟨b, 0, none⟩)) ∧ w.ownsRow B 5 1 v l.length (Lib.byteCells l)
structure BlU (b B : Nat) (l : List UInt8) (w : World) : Prop where
  lt : b < B
  size : B ≤ w.heap.size
  ex : ∃ v, w.heap[b]? = some (.cells #[.pointer (some ⟨b, 0, none⟩), v] 76) ∧ w.ownsRow B 5 1 v l.length (Lib.byteCells l)
/-- blocks below B but b, and all that are no cells, are as they were -/
structure BlK (b B : Nat) (w w' : World) : Prop where
  os : w'.os = w.os
  tape : w'.tape = w.tape
  output : w'.output = w.output
  block : ∀ k, k < B → k ≠ b → w'.heap[k]? = w.heap[k]?
  others : KeepsOthers w w'
theorem BlU.any {b B : Nat} {l : List UInt8} {w : World} (h : BlU b B l w) : BlA b B l w := by
  obtain ⟨h1, h2, v, h3, h4⟩ := h
  exact ⟨h1, h2, _, v, h3, Or.inr rfl, h4⟩
theorem BlK.refl (b B : Nat) (w : World) : BlK b B w w := ⟨rfl, rfl, rfl, fun _ _ _ => rfl, KeepsOthers.refl w⟩
theorem BlK.trans {b B : Nat} {x y z : World} (h : BlK b B x y) (k : BlK b B y z) : BlK b B x z :=
  ⟨k.os.trans h.os, k.tape.trans h.tape, k.output.trans h.output, fun i hi hb => (k.block i hi hb).trans (h.block i hi hb), h.others.trans k.others⟩
theorem BlK.of_below {b B : Nat} {w w' : World} (h : Below w.heap.size w w') (hB : B ≤ w.heap.size) : BlK b B w w' :=
  ⟨h.os, h.tape, h.output, fun k hk _ => h.block k (by omega), ⟨h.size, fun k _ hk _ => (h.block k (Array.getElem?_eq_some_iff.1 hk).1).trans hk⟩⟩
theorem BlK.below {b B n : Nat} {w0 w w' : World} (h : Below n w0 w) (k : BlK b B w w') (hn : n ≤ b) (hB : b < B) : Below n w0 w' :=
  ⟨k.os.trans h.os, k.tape.trans h.tape, k.output.trans h.output, Nat.le_trans h.size k.others.size, fun i hi => (k.block i (by omega) (by omega)).trans (h.block i hi)⟩
theorem BlK.kb {b B x : Nat} {w w' : World} (k : BlK b B w w') (h1 : x < B) (h2 : x ≠ b) : KB x w w' := k.block x h1 h2
theorem BlK.set {b B : Nat} {x y : World} (h : BlK b B x y) (i : Nat) (v : Value) : BlK b B x (y.setCell ⟨b, i, none⟩ v) :=
  ⟨h.os, h.tape, h.output, fun k hk hb => (Below.heap_setCell _ _ _ k hb).trans (h.block k hk hb), h.others.trans (KeepsOthers.setCell _ _ _)⟩
theorem BlA.below {b B : Nat} {l : List UInt8} {w w' : World} (h : BlA b B l w) (hb : Below w.heap.size w w') : BlA b B l w' := by
  obtain ⟨h1, h2, p, v, h3, h4, h5⟩ := h
  exact ⟨h1, Nat.le_trans h2 hb.size, p, v, (hb.block b (by omega)).trans h3, h4, ownsRow_below h5 hb⟩
theorem BlA.kept {b B : Nat} {l : List UInt8} {w w' : World} {row : Option Nat} (h : BlA b B l w) (hg : w.grownBy w' row) (hr : ∀ r, row = some r → ∃ o : Obj, w.heap[r]? = some o ∧ o.isCells = false) : BlA b B l w' := by
  obtain ⟨h1, h2, p, v, h3, h4, h5⟩ := h
  refine ⟨h1, Nat.le_trans h2 hg.size, p, v, (hg.block b (by omega) (fun e => ?_)).trans h3, h4, h5.kept hg ?_⟩
  · obtain ⟨o, ho, hc⟩ := hr b e.symm
    rw [h3] at ho; cases ho; cases hc
  · rcases h5.2 with ⟨rfl, _⟩ | ⟨g, cap, cur, rfl, _, hgb, _⟩
    · exact .inl rfl
    · refine .inr fun e' => ?_
      obtain ⟨o, ho, hc⟩ := hr g (by simpa [Value.ownBlock] using e'.symm)
      rw [hgb] at ho; cases ho; cases hc
theorem BlA.own {β : Type} (b B : Nat) (f : β → List UInt8) : Own (fun s W => BlA b B (f s) W) := fun _ _ _ _ hs hg hr => hs.kept hg hr
theorem BlA.bld {b B : Nat} {l : List UInt8} {w : World} (h : BlA b B l w) : Bld b b l w := by
  obtain ⟨h1, h2, p, v, h3, h4, h5⟩ := h
  have hne : v.ownBlock ≠ some b := by
    intro e
    rcases h5.2 with ⟨rfl, _⟩ | ⟨g, cap, cur, rfl, hg, _⟩
    · simp [Value.ownBlock] at e
    · simp [Value.ownBlock] at e; omega
  have hown : w.ownsRow b 5 1 v (Lib.byteCells l).length (Lib.byteCells l) := by rw [byteCells_len]; exact ownsRow_mono h5 (by omega)
  rcases h4 with rfl | rfl
  · exact Or.inl ⟨Nat.le_refl _, v, h3, hown, hne⟩
  · exact Or.inr ⟨Nat.le_refl _, v, h3, hown, hne⟩
theorem copyCheck2 (b B : Nat) (l : List UInt8) (w : World) (h : BlA b B l w) :
    Calls Tryz.prog 44 #[.pointer (some ⟨b, 0, none⟩)] w fun e w' => e = .returned (.tuple #[]) ∧ BlU b B l w' ∧ BlK b B w w' := by
  obtain ⟨h1, h2, p, v, h3, h4, h5⟩ := h
  rcases h4 with rfl | rfl
  · refine (copyCheck_fresh b w (Mem.cell h3 0 rfl) (by simp [World.shape?, h3]) (Mem.free h3 0)).mono ?_
    rintro e w' ⟨rfl, rfl⟩
    refine ⟨rfl, ⟨h1, by simpa [World.setCell] using h2, v, setCell_block h3 _, ?_⟩, (BlK.refl b B w).set 0 _⟩
    exact ownsRow_setCell_below h5 (a := ⟨b, 0, none⟩) h1 _
  · refine (copyCheck_used b w (Mem.cell h3 0 rfl)).mono ?_
    rintro e w' ⟨rfl, rfl⟩
    exact ⟨rfl, ⟨h1, h2, v, h3, h5⟩, BlK.refl _ _ _⟩
theorem BlK.grown {b B : Nat} {x y z : World} {v : Value} {e : TypeId} {n : Nat} {xs : List Value} (h : BlK b B x y) (hown : y.ownsRow B e 1 v n xs) (hB : B ≤ y.heap.size) (hg : y.grownBy z v.ownBlock) : BlK b B x z := by
  refine h.trans ⟨hg.os, hg.tape, hg.output, fun k hk _ => hg.block k (by omega) (fun e => by have := (hown.lt k e.symm).1; omega), KeepsOthers.of_grownBy hg fun j o ej hj => ?_⟩
  rcases hown.2 with ⟨rfl, _⟩ | ⟨g, cap, cur, rfl, _, hgb, _⟩
  · simp [Value.ownBlock] at ej
  · obtain rfl : g = j := by simpa [Value.ownBlock] using ej
    rw [hgb] at hj; cases hj; rfl
set_option maxRecDepth 100000 in
set_option maxHeartbeats 2000000 in
theorem writeByte2 (b B : Nat) (l : List UInt8) (c : UInt8) (w : World) (h : BlA b B l w) (hlen : l.length + 1 ≤ 140737488355328) :
    Calls Tryz.prog 67 #[.pointer (some ⟨b, 0, none⟩), .int .u8 c.toNat] w fun e w' => e = .returned .nilIface ∧ BlA b B (l ++ [c]) w' ∧ BlK b B w w' := by
  obtain ⟨i0, hi, hz0, hz1, hz2⟩ := info_parts bInfoByte
  have hend : Lib.byteCells (l ++ [c]) = Lib.byteCells l ++ [.int .u8 c.toNat] := by rw [byteCells_app]; rfl
  have HE := Lib.hid hend
  obtain ⟨C, hC⟩ : ∃ C : Int, C = c.toNat := ⟨_, rfl⟩
  rw [← hC] at HE ⊢
  clear hC hend
  go_enter Tryz.func67, Tryz.ntmps67
  go_wp2_with fail
  refine (copyCheck2 b B l _ h).mono ?_
  rintro e w1 ⟨rfl, h1, hb1⟩
  obtain ⟨hB, hsz, v, hbk, hown⟩ := h1
  have c0 : w1.cell? ⟨b, 0, none⟩ = some (.pointer (some ⟨b, 0, none⟩)) := Mem.cell hbk 0 rfl
  have c1 : w1.cell? ⟨b, 1, none⟩ = some v := Mem.cell hbk 1 rfl
  go_wp2_with (at_builtin; refine wpList_append_own _ rfl _ _ 22 rfl B 5 i0 (.int .u8 0) 1 1 Tryz.underlying22 hi hz0 hz1 hz2 rfl (by decide) _ _ _ rfl (hown.alloc _) ⟨w1.heap.size, 0, none⟩ 1 1 [.int .u8 C] rfl rfl ?c1 ?c2 ?c3 ?c4 ?c5 ?_)
  case c1 =>
    intro j u hj
    match j, hj with
    | 0, hj => simp at hj; subst hj; simp [Addr.add]
  case c2 => intro u hu; simp at hu; subst hu; rfl
  case c3 => unfold maxLen; omega
  case c4 => omega
  case c5 => simp; omega
  intro v' w2 hown' hgrow _
  have hlt : b < w1.heap.size := Mem.lt hbk
  have hneb : some b ≠ v.ownBlock := fun e => by have := (hown.lt b e.symm).1; omega
  have hb2 : w2.heap[b]? = some (.cells #[.pointer (some ⟨b, 0, none⟩), v] 76 (0, 0)) := by
    rw [hgrow.block b (by simp; omega) hneb, Lib.alloc_old w1 _ b hlt]
    exact hbk
  have d0 : w2.cell? ⟨b, 0, none⟩ = some (.pointer (some ⟨b, 0, none⟩)) := Mem.cell hb2 0 rfl
  have d1 : w2.cell? ⟨b, 1, none⟩ = some v := Mem.cell hb2 1 rfl
  have f1 : w2.frozen? ⟨b, 1, none⟩ = false := Mem.free hb2 1
  obtain ⟨g, cap, rfl⟩ : ∃ g cap, v' = .slice (some ⟨g, 0, none⟩) (l.length + 1) cap := by
    rcases hown'.2 with ⟨_, h0⟩ | ⟨g, cap, cur, hv, _⟩
    · omega
    · exact ⟨g, cap, hv⟩
  have hk2 : BlK b B w w2 := (hb1.trans (BlK.of_below (below_al (Below.refl _ _) _) hsz)).grown (hown.alloc _) (by simp; omega) hgrow
  have hsz2 : B ≤ w2.heap.size := by have := hgrow.size; simp at this; omega
  have hfin : Hid (BlA b B (l ++ [c]) (w2.setCell ⟨b, 1, none⟩ (.slice (some ⟨g, 0, none⟩) (l.length + 1) cap)) ∧ BlK b B w (w2.setCell ⟨b, 1, none⟩ (.slice (some ⟨g, 0, none⟩) (l.length + 1) cap))) := Lib.hid ⟨⟨hB, by simpa [World.setCell] using hsz2, _, _, setCell_block hb2 _, Or.inr rfl, by
    rw [HE.out]
    exact ownsRow_setCell_below (by simpa using hown') (a := ⟨b, 1, none⟩) hB _⟩, hk2.set 1 _⟩
  clear hk2 hown' hgrow hown hb1 hbk hb2 HE hsz hsz2
  go_wp2
  go_ret
  exact ⟨rfl, hfin.out⟩
set_option maxRecDepth 100000 in
set_option maxHeartbeats 2000000 in
theorem writeString2 (b B : Nat) (l : List UInt8) (s : ByteArray) (w : World) (h : BlA b B l w) (hlen : l.length + s.size ≤ 140737488355328) :
    Calls Tryz.prog 24 #[.pointer (some ⟨b, 0, none⟩), .string s] w fun e w' => e = .returned (.tuple #[.int .i64 s.size, .nilIface]) ∧ BlA b B (l ++ s.data.toList) w' ∧ BlK b B w w' := by
  obtain ⟨i0, hi, hz0, hz1, hz2⟩ := info_parts bInfoByte
  have HE : Hid (Lib.byteCells (l ++ s.data.toList) = Lib.byteCells l ++ Lib.strCells s) := Lib.hid (by rw [byteCells_app, strCells_eq])
  have HL : Hid ((l ++ s.data.toList).length = l.length + s.size) := Lib.hid (by rw [List.length_append]; rfl)
  obtain ⟨L2, hL2⟩ : ∃ L2, L2 = l ++ s.data.toList := ⟨_, rfl⟩
  rw [← hL2] at HE HL ⊢
  clear hL2
  go_enter Tryz.func24, Tryz.ntmps24
  go_wp2_with fail
  refine (copyCheck2 b B l _ h).mono ?_
  rintro e w1 ⟨rfl, h1, hb1⟩
  obtain ⟨hB, hsz, v, hbk, hown⟩ := h1
  have c0 : w1.cell? ⟨b, 0, none⟩ = some (.pointer (some ⟨b, 0, none⟩)) := Mem.cell hbk 0 rfl
  have c1 : w1.cell? ⟨b, 1, none⟩ = some v := Mem.cell hbk 1 rfl
  go_wp2_with (at_builtin; refine Lib.wpList_append_own_string _ rfl _ _ 22 9 rfl B 5 i0 Tryz.underlying22 Tryz.underlying9 hi hz0 hz1 hz2 _ _ _ rfl hown s rfl ?c3 ?c4 ?c5 ?_)
  case c3 => unfold maxLen; omega
  case c4 => omega
  case c5 => omega
  intro v' w2 hown' hgrow _
  have hlt : b < w1.heap.size := Mem.lt hbk
  have hneb : some b ≠ v.ownBlock := fun e => by have := (hown.lt b e.symm).1; omega
  have hb2 : w2.heap[b]? = some (.cells #[.pointer (some ⟨b, 0, none⟩), v] 76 (0, 0)) := by
    rw [hgrow.block b hlt hneb]
    exact hbk
  have d0 : w2.cell? ⟨b, 0, none⟩ = some (.pointer (some ⟨b, 0, none⟩)) := Mem.cell hb2 0 rfl
  have d1 : w2.cell? ⟨b, 1, none⟩ = some v := Mem.cell hb2 1 rfl
  have f1 : w2.frozen? ⟨b, 1, none⟩ = false := Mem.free hb2 1
  obtain ⟨ao, n', cap, rfl⟩ : ∃ ao n' cap, v' = .slice ao n' cap := by
    rcases hown'.2 with ⟨hv, _⟩ | ⟨g, cap, cur, hv, _⟩
    · exact ⟨_, _, _, hv⟩
    · exact ⟨_, _, _, hv⟩
  have hk2 : BlK b B w w2 := hb1.grown hown hsz hgrow
  have hsz2 : B ≤ w2.heap.size := Nat.le_trans hsz hgrow.size
  have hfin : Hid (BlA b B L2 (w2.setCell ⟨b, 1, none⟩ (.slice ao n' cap)) ∧ BlK b B w (w2.setCell ⟨b, 1, none⟩ (.slice ao n' cap))) := Lib.hid ⟨⟨hB, by simpa [World.setCell] using hsz2, _, _, setCell_block hb2 _, Or.inr rfl, by
    rw [HE.out, HL.out]
    exact ownsRow_setCell_below hown' (a := ⟨b, 1, none⟩) hB _⟩, hk2.set 1 _⟩
  clear hk2 hown' hgrow hown hb1 hbk hb2 HE HL hsz hsz2
  go_wp2
  go_ret2
  exact ⟨rfl, hfin.out⟩
theorem blen_any (b B : Nat) (l : List UInt8) (w : World) (h : BlA b B l w) :
    Calls Tryz.prog 66 #[.pointer (some ⟨b, 0, none⟩)] w fun e w' => e = .returned (.int .i64 l.length) ∧ w = w' := by
  obtain ⟨h1, h2, p, v, h3, h4, h5⟩ := h
  obtain ⟨ao, cap, rfl⟩ := ownsRow_slice8 h5
  have c0 := Mem.cell (v := p) h3 0 rfl
  have c1 := Mem.cell (v := .slice ao l.length cap) h3 1 rfl
  clear h3 h4 h5
  go_enter Tryz.func66, Tryz.ntmps66
  go_wp2
  go_ret
  exact ⟨rfl, rfl⟩
/-- String: what is neither the builder nor a row of bytes stays -/
theorem builderString_k (b : Nat) (l : List UInt8) (w : World) (h : Bld b b l w) (hBw : b ≤ w.heap.size) {n : Nat} {w0 : World} (hB : Below n w0 w) (hn : n ≤ b) {D : Nat} {ds : Option (List Deferred)} (hK : w.heap[D]? = some (.deferred ds)) :
    Calls Tryz.prog 29 #[.pointer (some ⟨b, 0, none⟩)] w fun e w' => e = .returned (.string ⟨l.toArray⟩) ∧ Below n w0 w' ∧ w'.heap[D]? = some (.deferred ds) := by
  refine (Go.Proofs.Tryz.Builder_String_any_k b b l w (Lib.IsBuilderF.of h) hBw).mono ?_
  rintro e w' ⟨rfl, -, hb, ho⟩
  refine ⟨rfl, hB.trans (hb.mono hn), ho D _ hK (fun e => ?_) (fun _ _ e => by cases e)⟩
  cases e
  rcases h with h | h
  · obtain ⟨_, _, h3, _⟩ := h
    rw [h3] at hK; cases hK
  · obtain ⟨_, _, h3, _⟩ := h
    rw [h3] at hK; cases hK
end Go.Proofs.YtiggallcoocdaaaGreatDoor
