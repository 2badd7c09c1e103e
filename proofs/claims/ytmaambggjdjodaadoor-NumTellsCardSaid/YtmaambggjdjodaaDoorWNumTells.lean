/- Of any operation, any numbers, any bytes, any text the program and the reference tell the same. The walk: the law answers true; no memory that was there is turned. Conditions: the integers are of their kinds, a string has at most 140737488351232 bytes, the listed package variables hold what the program's text lays. -/
import Derived.Test.YtmaambggjdjodaaDoorNumLaws
import Derived.Test.YtmaambggjdjodaaDoorRefGet
import Derived.Test.YtmaambggjdjodaaDoorRefParse
namespace Go.Proofs.YtmaambggjdjodaaDoor
open Go.RowKit
theorem rget_t (s : ByteArray) (a : Int) (w : World) (hs : s.size ≤ 140737488351232) :
    Calls Tryd.prog 14 #[.string s, .int .i64 a] w fun e w' => e = .returned (.tuple #[.int .i64 (gV (getR s.data.toList a)), .int .i64 (gN (getR s.data.toList a)), .bool (gO (getR s.data.toList a))]) ∧ w = w' :=
  rget_any s a w (by unfold maxLen; omega)
theorem rparse_t (s : ByteArray) (w : World) (hs : s.size ≤ 140737488351232) :
    Calls Tryd.prog 16 #[.string s] w fun e w' => e = .returned (.tuple #[.int .i64 (pV (parseS s.data.toList)), .bool (pO (parseS s.data.toList))]) ∧ Below w.heap.size w w' :=
  rparse_any s w (by unfold maxLen; omega)
set_option maxHeartbeats 1000000 in
theorem numTells_walk (op a b : Int) (s : ByteArray) (at_ : Int) (text : ByteArray) (_ : InI64 op) (ha : InI64 a) (_ : InI64 b) (hs : s.size ≤ 140737488351232) (_ : InI64 at_) (ht : text.size ≤ 140737488351232) (w : World) (hw : Laid w) :
    Calls Tryd.prog 3 #[.int .i64 op, .int .i64 a, .int .i64 b, .string s, .int .i64 at_, .string text] w fun e w' => e = .returned (.bool true) ∧ Below w.heap.size w w' := by
  go_enter Tryd.func3, Tryd.ntmps3
  go_wp2_with fail
  refine (examples_any _ hw).mono ?_
  rintro e w1 ⟨rfl, hb1⟩
  have hw1 := hw.below hb1
  go_wp2_with fail
  refine (do_below _ _ _ _).mono ?_
  rintro e w2 ⟨rfl, hb2⟩
  have hw2 := hw1.below hb2
  go_wp2_with fail
  refine (rdo_any _ _ _ _).mono ?_
  rintro e _ ⟨rfl, rfl⟩
  go_wp2_with fail
  refine (get_t _ _ _ hs).mono ?_
  rintro e _ ⟨rfl, rfl⟩
  go_wp2_with fail
  refine (rget_t _ _ _ hs).mono ?_
  rintro e _ ⟨rfl, rfl⟩
  go_wp2_with fail
  refine (parse_t _ _ ht hw2).mono ?_
  rintro e w3 ⟨rfl, hb3⟩
  have hw3 := hw2.below hb3
  go_wp2_with fail
  refine (rparse_t _ _ ht).mono ?_
  rintro e w4 ⟨rfl, hb4⟩
  have hw4 := hw3.below hb4
  go_wp2_with fail
  refine (put_any _ _ ha).mono ?_
  rintro e w5 ⟨rfl, hb5⟩
  have hw5 := hw4.below hb5
  go_wp2_with fail
  refine (rput_any _ _ ha).mono ?_
  rintro e w6 ⟨rfl, hb6⟩
  have hw6 := hw5.below hb6
  go_wp2_with fail
  refine (text_any _ _ ha hw6).mono ?_
  rintro e w7 ⟨rfl, hb7⟩
  have hw7 := hw6.below hb7
  go_wp2_with fail
  refine (rtext_any _ _ ha).mono ?_
  rintro e w8 ⟨rfl, hb8⟩
  have hw8 := hw7.below hb8
  go_wp2_with fail
  go_ret
  exact ⟨rfl, (below_two hb1 (below_two hb2 (below_two hb3 (below_two hb4 (below_two hb5 (below_two hb6 (below_two hb7 hb8)))))))⟩
end Go.Proofs.YtmaambggjdjodaaDoor
