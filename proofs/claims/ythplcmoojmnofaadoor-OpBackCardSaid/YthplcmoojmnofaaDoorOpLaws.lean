/- What the statements of chapter 8 share: the chapter's examples. -/
import Derived.Test.YthplcmoojmnofaaDoorOpParse
namespace Go.Proofs.YthplcmoojmnofaaDoor
open Go.RowKit
theorem oex1 : Ending.returned (.tuple #[.agg #[.string ⟨(aName 38).toArray⟩, .int .i64 (aArg 38), .int .i64 (aPop 38), .int .i64 (aPush 38), .bool (aLast 38 && aOk 38)], .bool (aOk 38)]) = .returned (.tuple #[.agg #[.string ⟨#[102, 111, 114, 107]⟩, .int .i64 4, .int .i64 3, .int .i64 1, .bool false], .bool true]) := by kernel_rfl
theorem oex2 : Ending.returned (.tuple #[.agg #[.string ⟨(aName 48).toArray⟩, .int .i64 (aArg 48), .int .i64 (aPop 48), .int .i64 (aPush 48), .bool (aLast 48 && aOk 48)], .bool (aOk 48)]) = .returned (.tuple #[.agg #[.string ⟨#[]⟩, .int .i64 0, .int .i64 0, .int .i64 0, .bool false], .bool false]) := by kernel_rfl
def pushText : ByteArray := ⟨#[112, 117, 115, 104, 32, 51]⟩
theorem oex3' : opParse pushText.data.toList = some (1, 3) := by
  have h : pushText.data.toList = opText 1 3 := by decide +kernel
  rw [h, opParse_text (by decide +kernel)]
theorem oex3 : opPEnd (opParse pushText.data.toList) = .returned (.tuple #[.agg #[.int .i64 1, .int .i64 3], .bool true]) := by rw [oex3']; rfl
def jumpText : ByteArray := ⟨#[0, 15, 1, 2]⟩
theorem oex4 : opEnd (opGet jumpText.data.toList 1) = .returned (.tuple #[.agg #[.int .i64 15, .int .i64 258], .int .i64 4, .bool true]) := by
  rw [show opGet jumpText.data.toList 1 = some ((15, 258), 4) by decide +kernel]; rfl
theorem oex5 : opPut 15 258 = [15, 1, 2] := by decide +kernel
theorem oex6 : opText 47 0 = [111, 119, 110] := by decide +kernel
theorem oex7 : rightB 47 1 = false := by decide +kernel
theorem cellB {w w' : World} {b j : Nat} {v : Value} (hb : Below w.heap.size w w') (h : w.cell? ⟨b, j, none⟩ = some v) : w'.cell? ⟨b, j, none⟩ = some v := (hb.cell (World.block_lt_of_cell? _ _ h)).trans h
structure Info5 (w : World) (b : Nat) (n : ByteArray) (x y z : Int) (l : Bool) : Prop where
  c0 : w.cell? ⟨b, 0, none⟩ = some (.string n)
  c1 : w.cell? ⟨b, 1, none⟩ = some (.int .i64 x)
  c2 : w.cell? ⟨b, 2, none⟩ = some (.int .i64 y)
  c3 : w.cell? ⟨b, 3, none⟩ = some (.int .i64 z)
  c4 : w.cell? ⟨b, 4, none⟩ = some (.bool l)
theorem Info5.new (w : World) (T : TypeId) (n : ByteArray) (x y z : Int) (l : Bool) : Info5 (w.alloc (.cells #[.string n, .int .i64 x, .int .i64 y, .int .i64 z, .bool l] T)) w.heap.size n x y z l := ⟨by simp, by simp, by simp, by simp, by simp⟩
theorem Info5.below {w w' : World} {b : Nat} {n : ByteArray} {x y z : Int} {l : Bool} (h : Info5 w b n x y z l) (hb : Below w.heap.size w w') : Info5 w' b n x y z l :=
  ⟨cellB hb h.c0, cellB hb h.c1, cellB hb h.c2, cellB hb h.c3, cellB hb h.c4⟩
structure Two (w : World) (b : Nat) (x y : Int) : Prop where
  c0 : w.cell? ⟨b, 0, none⟩ = some (.int .i64 x)
  c1 : w.cell? ⟨b, 1, none⟩ = some (.int .i64 y)
theorem Two.new (w : World) (T : TypeId) (x y : Int) : Two (w.alloc (.cells #[.int .i64 x, .int .i64 y] T)) w.heap.size x y := ⟨by simp, by simp⟩
theorem Two.below {w w' : World} {b : Nat} {x y : Int} (h : Two w b x y) (hb : Below w.heap.size w w') : Two w' b x y := ⟨cellB hb h.c0, cellB hb h.c1⟩
theorem Below.al {n : Nat} {w w' : World} (h : Below n w w') (o : Obj) (hn : n ≤ w.heap.size) : Below n w (w'.alloc o) := h.trans ((Below.refl _ _).alloc (Nat.le_trans hn h.size) o)
theorem Info5.al {w : World} {b : Nat} {n : ByteArray} {x y z : Int} {l : Bool} (h : Info5 w b n x y z l) (o : Obj) : Info5 (w.alloc o) b n x y z l := h.below ((Below.refl _ _).alloc (Nat.le_refl _) _)
theorem Two.al {w : World} {b : Nat} {x y : Int} (h : Two w b x y) (o : Obj) : Two (w.alloc o) b x y := h.below ((Below.refl _ _).alloc (Nat.le_refl _) _)
set_option maxHeartbeats 1000000 in
theorem oexamples_any (w : World) (hw : LaidOp w) : Calls Tryd.prog 8 #[] w fun e w' => e = .returned (.bool true) ∧ Below w.heap.size w w' := by
  go_enter Tryd.func8, Tryd.ntmps8
  go_wp2_with fail
  refine (about_any _ _ hw).mono ?_
  rw [oex1]
  rintro e w1 ⟨rfl, hb1⟩
  have hw1 := hw.below hb1
  go_wp2_with fail
  refine (about_any _ _ (hw1.alloc _)).mono ?_
  rw [oex2]
  rintro e w2 ⟨rfl, hb2⟩
  have hw2 := (hw1.alloc _).below hb2
  have I2 := (Info5.new w1 _ _ _ _ _ _).below hb2
  go_wp2_with fail
  refine (oparse_any pushText _ (by decide) (hw2.alloc _)).mono ?_
  rw [oex3]
  rintro e w3 ⟨rfl, hb3⟩
  have hw3 := (hw2.alloc _).below hb3
  have I3 := (I2.below ((Below.refl _ _).alloc (Nat.le_refl _) _)).below hb3
  go_wp2_with fail
  refine (oget_any jumpText _ _ (by decide) (hw3.alloc _)).mono ?_
  rw [oex4]
  rintro e w4 ⟨rfl, hb4⟩
  have hw4 := (hw3.alloc _).below hb4
  have I4 := (I3.below ((Below.refl _ _).alloc (Nat.le_refl _) _)).below hb4
  have O4 := (Two.new w3 _ _ _).below hb4
  have i0 := fun o => (I4.al o).c0
  have i1 := fun o => (I4.al o).c1
  have i2 := fun o => (I4.al o).c2
  have i3 := fun o => (I4.al o).c3
  have i4 := fun o => (I4.al o).c4
  have o0 := fun o => (O4.al o).c0
  have o1 := fun o => (O4.al o).c1
  have s1 := hb2.size
  have s2 := hb3.size
  have s3 := hb4.size
  simp at s1 s2 s3
  go_wp2_with fail
  refine (put_op _ _ _ (hw4.alloc _)).mono ?_
  rw [oex5]
  rintro e w5 ⟨rfl, hb5⟩
  have hw5 := (hw4.alloc _).below hb5
  go_wp2_with fail
  refine (text_op 47 0 _ hw5).mono ?_
  rw [oex6]
  rintro e w6 ⟨rfl, hb6⟩
  have hw6 := hw5.below hb6
  go_wp2_with fail
  refine (right_any 47 1 _ hw6).mono ?_
  rw [oex7]
  rintro e w7 ⟨rfl, hb7⟩
  go_wp2_with fail
  go_ret
  refine ⟨rfl, below_two hb1 (below_alloc_then (below_two hb2 (below_alloc_then (below_two hb3 (below_alloc_then (below_two hb4 (below_alloc_then (below_two hb5 (below_two hb6 hb7)))))))))⟩
end Go.Proofs.YthplcmoojmnofaaDoor
