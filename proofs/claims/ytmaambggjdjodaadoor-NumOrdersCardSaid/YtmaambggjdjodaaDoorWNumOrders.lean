/- Of two numbers one is below, or they are the same, or it is above; with a number between it is below both ways. The walk: the law answers true; no memory that was there is turned. Conditions: the integers are of their kinds, a string has at most 140737488351232 bytes, the listed package variables hold what the program's text lays. -/
import Derived.Test.YtmaambggjdjodaaDoorNumLaws
namespace Go.Proofs.YtmaambggjdjodaaDoor
open Go.RowKit
theorem lt_one {a b : Int} (h : a < b) : doV 13 a b = 1 := by simp [doV, h]
theorem lt_nil {a b : Int} (h : b ≤ a) : doV 13 a b = 0 := by simp [doV]; omega
theorem eq_one {a b : Int} (h : a = b) : doV 12 a b = 1 := by simp [doV, h]
theorem eq_nil {a b : Int} (h : a ≠ b) : doV 12 a b = 0 := by simp [doV, h]
set_option maxHeartbeats 1000000 in
theorem numOrders_walk (a b c : Int) (_ : InI64 a) (_ : InI64 b) (_ : InI64 c) (w : World) (hw : Laid w) :
    Calls Tryd.prog 6 #[.int .i64 a, .int .i64 b, .int .i64 c] w fun e w' => e = .returned (.bool true) ∧ Below w.heap.size w w' := by
  by_cases h1 : a < b
  · have e1 := lt_one h1
    have e2 := lt_nil (a := b) (b := a) (by omega)
    have e3 := eq_nil (a := a) (b := b) (by omega)
    have e4 : (a == b) = false := beq_eq_false_iff_ne.2 (by omega)
    by_cases h2 : b < c
    · have e5 := lt_one h2
      have e6 := lt_one (a := a) (b := c) (by omega)
      go_enter Tryd.func6, Tryd.ntmps6
      go_wp2_with fail
      refine (examples_any _ hw).mono ?_
      rintro e w1 ⟨rfl, hb1⟩
      have hw1 := hw.below hb1
      go_wp2_with fail
      refine (ldo_any _ _ _ _).mono ?_
      rintro e w2 ⟨rfl, hb2⟩
      have hw2 := hw1.below hb2
      go_wp2_with fail
      refine (ldo_any _ _ _ _).mono ?_
      rintro e w3 ⟨rfl, hb3⟩
      have hw3 := hw2.below hb3
      go_wp2_with fail
      refine (ldo_any _ _ _ _).mono ?_
      rintro e w4 ⟨rfl, hb4⟩
      have hw4 := hw3.below hb4
      go_wp2_with fail
      refine (ldo_any _ _ _ _).mono ?_
      rintro e w5 ⟨rfl, hb5⟩
      have hw5 := hw4.below hb5
      go_wp2_with fail
      refine (ldo_any _ _ _ _).mono ?_
      rintro e w6 ⟨rfl, hb6⟩
      have hw6 := hw5.below hb6
      go_wp2_with fail
      go_ret
      exact ⟨rfl, (below_two hb1 (below_two hb2 (below_two hb3 (below_two hb4 (below_two hb5 hb6)))))⟩
    · have e5 := lt_nil (a := b) (b := c) (by omega)
      clear h2
      go_enter Tryd.func6, Tryd.ntmps6
      go_wp2_with fail
      refine (examples_any _ hw).mono ?_
      rintro e w1 ⟨rfl, hb1⟩
      have hw1 := hw.below hb1
      go_wp2_with fail
      refine (ldo_any _ _ _ _).mono ?_
      rintro e w2 ⟨rfl, hb2⟩
      have hw2 := hw1.below hb2
      go_wp2_with fail
      refine (ldo_any _ _ _ _).mono ?_
      rintro e w3 ⟨rfl, hb3⟩
      have hw3 := hw2.below hb3
      go_wp2_with fail
      refine (ldo_any _ _ _ _).mono ?_
      rintro e w4 ⟨rfl, hb4⟩
      have hw4 := hw3.below hb4
      go_wp2_with fail
      refine (ldo_any _ _ _ _).mono ?_
      rintro e w5 ⟨rfl, hb5⟩
      have hw5 := hw4.below hb5
      go_wp2_with fail
      go_ret
      exact ⟨rfl, (below_two hb1 (below_two hb2 (below_two hb3 (below_two hb4 hb5))))⟩
  · have e1 := lt_nil (a := a) (b := b) (by omega)
    by_cases h2 : a = b
    · have e2 := lt_nil (a := b) (b := a) (by omega)
      have e3 := eq_one h2
      have e4 : (a == b) = true := beq_iff_eq.2 h2
      clear h1 h2
      go_enter Tryd.func6, Tryd.ntmps6
      go_wp2_with fail
      refine (examples_any _ hw).mono ?_
      rintro e w1 ⟨rfl, hb1⟩
      have hw1 := hw.below hb1
      go_wp2_with fail
      refine (ldo_any _ _ _ _).mono ?_
      rintro e w2 ⟨rfl, hb2⟩
      have hw2 := hw1.below hb2
      go_wp2_with fail
      refine (ldo_any _ _ _ _).mono ?_
      rintro e w3 ⟨rfl, hb3⟩
      have hw3 := hw2.below hb3
      go_wp2_with fail
      refine (ldo_any _ _ _ _).mono ?_
      rintro e w4 ⟨rfl, hb4⟩
      have hw4 := hw3.below hb4
      go_wp2_with fail
      go_ret
      exact ⟨rfl, (below_two hb1 (below_two hb2 (below_two hb3 hb4)))⟩
    · have e2 := lt_one (a := b) (b := a) (by omega)
      have e3 := eq_nil h2
      have e4 : (a == b) = false := beq_eq_false_iff_ne.2 h2
      clear h1 h2
      go_enter Tryd.func6, Tryd.ntmps6
      go_wp2_with fail
      refine (examples_any _ hw).mono ?_
      rintro e w1 ⟨rfl, hb1⟩
      have hw1 := hw.below hb1
      go_wp2_with fail
      refine (ldo_any _ _ _ _).mono ?_
      rintro e w2 ⟨rfl, hb2⟩
      have hw2 := hw1.below hb2
      go_wp2_with fail
      refine (ldo_any _ _ _ _).mono ?_
      rintro e w3 ⟨rfl, hb3⟩
      have hw3 := hw2.below hb3
      go_wp2_with fail
      refine (ldo_any _ _ _ _).mono ?_
      rintro e w4 ⟨rfl, hb4⟩
      have hw4 := hw3.below hb4
      go_wp2_with fail
      go_ret
      exact ⟨rfl, (below_two hb1 (below_two hb2 (below_two hb3 hb4)))⟩
end Go.Proofs.YtmaambggjdjodaaDoor
