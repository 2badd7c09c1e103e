/- What the statements of chapter 5 share: 'do' and the chapter's examples. -/
import Derived.Test.YtmaambggjdjodaaDoorNumDo
import Derived.Test.YtmaambggjdjodaaDoorNumPut
import Derived.Test.YtmaambggjdjodaaDoorNumGet
import Derived.Test.YtmaambggjdjodaaDoorNumText
namespace Go.Proofs.YtmaambggjdjodaaDoor
open Go.RowKit
theorem below_map (w : World) (es : Array MapEntry) (c : Nat) : Below w.heap.size w (w.alloc (.map es c)) := (Below.refl _ _).alloc (Nat.le_refl _) _
theorem do_below (op a b : Int) (w : World) : Calls Tryd.prog 11 #[.int .i64 op, .int .i64 a, .int .i64 b] w fun e w' => e = .returned (.tuple #[.int .i64 (doV op a b), .bool (doOk op b)]) ∧ Below w.heap.size w w' :=
  (do_any op a b w).mono fun _ _ ⟨he, hw⟩ => ⟨he, hw ▸ below_map _ _ _⟩
theorem ldo_any (op a b : Int) (w : World) : Calls Tryd.prog 21 #[.int .i64 op, .int .i64 a, .int .i64 b] w fun e w' => e = .returned (.int .i64 (doV op a b)) ∧ Below w.heap.size w w' := by
  go_enter Tryd.func21, Tryd.ntmps21
  go_wp2_with fail
  refine (do_below _ _ _ _).mono ?_
  rintro e w1 ⟨rfl, hb1⟩
  go_wp2_with fail
  go_ret
  exact ⟨rfl, hb1⟩
def pV (r : Option Int) : Int := r.getD 0
def pO (r : Option Int) : Bool := r.isSome
theorem get_t (s : ByteArray) (a : Int) (w : World) (hs : s.size ≤ 9223372036854775807) :
    Calls Tryd.prog 13 #[.string s, .int .i64 a] w fun e w' => e = .returned (.tuple #[.int .i64 (gV (getR s.data.toList a)), .int .i64 (gN (getR s.data.toList a)), .bool (gO (getR s.data.toList a))]) ∧ w = w' :=
  get_any s a w (by unfold maxLen; omega)
theorem parse_t (s : ByteArray) (w : World) (hs : s.size ≤ 140737488351232) (hw : Laid w) :
    Calls Tryd.prog 15 #[.string s] w fun e w' => e = .returned (.tuple #[.int .i64 (pV (parseS s.data.toList)), .bool (pO (parseS s.data.toList))]) ∧ Below w.heap.size w w' :=
  parse_any s w (by unfold maxLen; omega) hw
theorem ex1 : Ending.returned (.tuple #[.int .i64 (doV 10 (-7) 2), .bool (doOk 10 2)]) = .returned (.tuple #[.int .i64 (-3), .bool true]) := by kernel_rfl
theorem ex2 : Ending.returned (.tuple #[.int .i64 (doV 11 1 0), .bool (doOk 11 0)]) = .returned (.tuple #[.int .i64 0, .bool false]) := by kernel_rfl
theorem ex3 : Ending.returned (.tuple #[.int .i64 (doV 10 (-9223372036854775808) (-1)), .bool (doOk 10 (-1))]) = .returned (.tuple #[.int .i64 (-9223372036854775808), .bool true]) := by kernel_rfl
theorem ex4 : putL (-65) = [129, 1] := by decide +kernel
theorem ex5 : getEnd (getR ((⟨#[120]⟩ : ByteArray) ++ (⟨#[129, 1]⟩ : ByteArray)).data.toList 1) = .returned (.tuple #[.int .i64 (-65), .int .i64 3, .bool true]) := by kernel_rfl
def minText : ByteArray := ⟨#[45, 57, 50, 50, 51, 51, 55, 50, 48, 51, 54, 56, 53, 52, 55, 55, 53, 56, 48, 56]⟩
theorem ex6 : parseEnd (parseS minText.data.toList) = .returned (.tuple #[.int .i64 (-9223372036854775808), .bool true]) := by
  rw [parseS_eq minText.data.toList (-9223372036854775808) (by unfold InI64; omega) (by decide +kernel)]
  rfl
theorem ex7 : Lib.itoa (-5) = [45, 53] := by decide +kernel
set_option maxHeartbeats 1000000 in
theorem examples_any (w : World) (hw : Laid w) : Calls Tryd.prog 10 #[] w fun e w' => e = .returned (.bool true) ∧ Below w.heap.size w w' := by
  go_enter Tryd.func10, Tryd.ntmps10
  go_wp2_with fail
  refine (do_below _ _ _ _).mono ?_
  rw [ex1]
  rintro e w1 ⟨rfl, hb1⟩
  have hw1 := hw.below hb1
  go_wp2_with fail
  refine (do_below _ _ _ _).mono ?_
  rw [ex2]
  rintro e w2 ⟨rfl, hb2⟩
  have hw2 := hw1.below hb2
  go_wp2_with fail
  refine (do_below _ _ _ _).mono ?_
  rw [ex3]
  rintro e w3 ⟨rfl, hb3⟩
  have hw3 := hw2.below hb3
  go_wp2_with fail
  refine (put_any _ _ (by unfold InI64; omega)).mono ?_
  rw [ex4]
  rintro e w4 ⟨rfl, hb4⟩
  have hw4 := hw3.below hb4
  go_wp2_with fail
  refine (get_any _ _ _ (by decide)).mono ?_
  rw [ex5]
  rintro e w5 ⟨rfl, rfl⟩
  go_wp2_with fail
  refine (parse_any minText _ (by decide) hw4).mono ?_
  rw [ex6]
  rintro e w6 ⟨rfl, hb6⟩
  have hw6 := hw4.below hb6
  go_wp2_with fail
  refine (put_any _ _ (by unfold InI64; omega)).mono ?_
  rw [ex4]
  rintro e w7 ⟨rfl, hb7⟩
  have hw7 := hw6.below hb7
  go_wp2_with fail
  refine (text_any _ _ (by unfold InI64; omega) hw7).mono ?_
  rw [ex7]
  rintro e w8 ⟨rfl, hb8⟩
  go_wp2_with fail
  go_ret
  exact ⟨rfl, below_two hb1 (below_two hb2 (below_two hb3 (below_two hb4 (below_two hb6 (below_two hb7 hb8)))))⟩
end Go.Proofs.YtmaambggjdjodaaDoor
