/- A quotient times its divisor, and what is left, is the number; what is left is less in size, and of its sign, or 0; by 0 there is none. The walk: the law answers true; no memory that was there is turned. Conditions: the integers are of their kinds, a string has at most 140737488351232 bytes, the listed package variables hold what the program's text lays. -/
import Derived.Test.YtmaambggjdjodaaDoorNumLaws
namespace Go.Proofs.YtmaambggjdjodaaDoor
open Go.RowKit
theorem wrap64_off (x : Int) : ∃ q, wrap64 x = x + 18446744073709551616 * q := ⟨-((x + 9223372036854775808) / 18446744073709551616), by unfold wrap64; omega⟩
theorem wrap64_more (x q : Int) : wrap64 (x + 18446744073709551616 * q) = wrap64 x := by unfold wrap64; omega
theorem divides_eq (a b : Int) (ha : InI64 a) (h : b ≠ 0) : wrap64 (wrap64 (wrap64 (a.tdiv b) * b) + a.tmod b) = a := by
  have h1 := Int.mul_tdiv_add_tmod a b
  obtain ⟨q, hq⟩ := wrap64_off (a.tdiv b)
  obtain ⟨p, hp⟩ := wrap64_off (wrap64 (a.tdiv b) * b)
  obtain ⟨x1, x2⟩ := ha
  have h2 : wrap64 (wrap64 (a.tdiv b) * b) + a.tmod b = a + 18446744073709551616 * (q * b + p) := by
    rw [hp, hq, Int.add_mul, Int.mul_add, Int.mul_assoc]
    have h3 : a.tdiv b * b = b * a.tdiv b := Int.mul_comm _ _
    omega
  rw [h2, wrap64_more]
  unfold wrap64
  omega
theorem rem_bounds (a b : Int) (h : b ≠ 0) : (a.tmod b < 0 → a < 0) ∧ (0 < a.tmod b → 0 ≤ a) ∧ (a.tmod b).natAbs < b.natAbs := by
  refine ⟨fun h1 => ?_, fun h1 => ?_, ?_⟩
  · rcases Int.lt_or_le a 0 with h2 | h2
    · exact h2
    · have := Int.tmod_nonneg b h2
      omega
  · rcases Int.lt_or_le a 0 with h2 | h2
    · have h3 := Int.tmod_nonneg b (show 0 ≤ -a by omega)
      rw [Int.neg_tmod] at h3
      omega
    · exact h2
  · rw [Int.natAbs_tmod]
    exact Nat.mod_lt _ (by omega)
set_option maxHeartbeats 1000000 in
theorem numDivides_walk (a b : Int) (ha : InI64 a) (hbb : InI64 b) (w : World) (hw : Laid w) :
    Calls Tryd.prog 5 #[.int .i64 a, .int .i64 b] w fun e w' => e = .returned (.bool true) ∧ Below w.heap.size w w' := by
  obtain ⟨a1, a2⟩ := ha
  obtain ⟨b1, b2⟩ := hbb
  by_cases h0 : b = 0
  · subst h0
    have e1 : doV 10 a 0 = 0 := rfl
    have e2 : doV 11 a 0 = 0 := rfl
    have e3 : doOk 10 0 = false := rfl
    have e4 : doOk 11 0 = false := rfl
    go_enter Tryd.func5, Tryd.ntmps5
    go_wp2_with fail
    refine (examples_any _ hw).mono ?_
    rintro e w1 ⟨rfl, hb1⟩
    have hw1 := hw.below hb1
    go_wp2_with fail
    refine (do_below _ _ _ _).mono ?_
    rintro e w2 ⟨rfl, hb2⟩
    have hw2 := hw1.below hb2
    go_wp2_with fail
    refine (do_below _ _ _ _).mono ?_
    rintro e w3 ⟨rfl, hb3⟩
    have hw3 := hw2.below hb3
    go_wp2_with fail
    go_ret
    exact ⟨rfl, (below_two hb1 (below_two hb2 hb3))⟩
  · have hq := divides_eq a b ⟨a1, a2⟩ h0
    obtain ⟨r1, r2, r3⟩ := rem_bounds a b h0
    obtain ⟨q, hqq⟩ : ∃ q, wrap64 (a.tdiv b) = q := ⟨_, rfl⟩
    obtain ⟨r, hrr⟩ : ∃ r, a.tmod b = r := ⟨_, rfl⟩
    have e1 : doV 10 a b = q := by rw [← hqq]; simp [doV, h0]
    have e2 : doV 11 a b = r := by rw [← hrr]; simp [doV, h0]
    have e3 : doOk 10 b = true := by simp [doOk, h0]
    have e4 : doOk 11 b = true := by simp [doOk, h0]
    have e5 : (b != 0) = true := by simp [h0]
    rw [hqq, hrr] at hq
    rw [hrr] at r1 r2 r3
    clear hqq hrr
    have hrI : InI64 r := by unfold InI64; omega
    have hrl : -9223372036854775808 ≤ r := hrI.1
    have hru : r ≤ 9223372036854775807 := hrI.2
    by_cases hm : b = -9223372036854775808
    · have e6 : (b == -9223372036854775808) = true := beq_iff_eq.2 hm
      clear hm hrI
      rcases Int.lt_trichotomy r 0 with hs | hs | hs
      · have hs1 := r1 hs
        have e7 : (r != 0) = true := by rw [bne_iff_ne]; omega
        clear r1 r2 r3 h0
        go_enter Tryd.func5, Tryd.ntmps5
        go_wp2_with fail
        refine (examples_any _ hw).mono ?_
        rintro e w1 ⟨rfl, hb1⟩
        have hw1 := hw.below hb1
        go_wp2_with fail
        refine (do_below _ _ _ _).mono ?_
        rintro e w2 ⟨rfl, hb2⟩
        have hw2 := hw1.below hb2
        go_wp2_with fail
        refine (do_below _ _ _ _).mono ?_
        rintro e w3 ⟨rfl, hb3⟩
        have hw3 := hw2.below hb3
        go_wp2_with fail
        go_ret
        exact ⟨rfl, (below_two hb1 (below_two hb2 hb3))⟩
      · subst hs
        have hq1 : wrap64 (q * b) = a := by
          unfold wrap64 at hq ⊢
          omega
        clear r1 r2 r3 h0 hq hrl hru
        go_enter Tryd.func5, Tryd.ntmps5
        go_wp2_with fail
        refine (examples_any _ hw).mono ?_
        rintro e w1 ⟨rfl, hb1⟩
        have hw1 := hw.below hb1
        go_wp2_with fail
        refine (do_below _ _ _ _).mono ?_
        rintro e w2 ⟨rfl, hb2⟩
        have hw2 := hw1.below hb2
        go_wp2_with fail
        refine (do_below _ _ _ _).mono ?_
        rintro e w3 ⟨rfl, hb3⟩
        have hw3 := hw2.below hb3
        go_wp2_with fail
        go_ret
        exact ⟨rfl, (below_two hb1 (below_two hb2 hb3))⟩
      · have hs1 := r2 hs
        have e8 : decide (r < 0) = false := by simp; omega
        have e9 : decide (a < 0) = false := by simp; omega
        have e7 : (r != 0) = true := by rw [bne_iff_ne]; omega
        clear r1 r2 r3 h0
        go_enter Tryd.func5, Tryd.ntmps5
        go_wp2_with fail
        refine (examples_any _ hw).mono ?_
        rintro e w1 ⟨rfl, hb1⟩
        have hw1 := hw.below hb1
        go_wp2_with fail
        refine (do_below _ _ _ _).mono ?_
        rintro e w2 ⟨rfl, hb2⟩
        have hw2 := hw1.below hb2
        go_wp2_with fail
        refine (do_below _ _ _ _).mono ?_
        rintro e w3 ⟨rfl, hb3⟩
        have hw3 := hw2.below hb3
        go_wp2_with fail
        go_ret
        exact ⟨rfl, (below_two hb1 (below_two hb2 hb3))⟩
    · have e6 : (b == -9223372036854775808) = false := beq_eq_false_iff_ne.2 hm
      rcases Int.lt_trichotomy r 0 with hs | hs | hs
      · have hs1 := r1 hs
        have e7 : (r != 0) = true := by rw [bne_iff_ne]; omega
        by_cases hbn : b < 0
        · have g1 : r < -b := by omega
          have g2 : b < r := by omega
          have g3 : -9223372036854775807 ≤ b := by omega
          clear r1 r2 r3 h0 hm hrI
          go_enter Tryd.func5, Tryd.ntmps5
          go_wp2_with fail
          refine (examples_any _ hw).mono ?_
          rintro e w1 ⟨rfl, hb1⟩
          have hw1 := hw.below hb1
          go_wp2_with fail
          refine (do_below _ _ _ _).mono ?_
          rintro e w2 ⟨rfl, hb2⟩
          have hw2 := hw1.below hb2
          go_wp2_with fail
          refine (do_below _ _ _ _).mono ?_
          rintro e w3 ⟨rfl, hb3⟩
          have hw3 := hw2.below hb3
          go_wp2_with fail
          go_ret
          exact ⟨rfl, (below_two hb1 (below_two hb2 hb3))⟩
        · have g1 : r < b := by omega
          have g2 : -b < r := by omega
          clear r1 r2 r3 h0 hm hrI
          go_enter Tryd.func5, Tryd.ntmps5
          go_wp2_with fail
          refine (examples_any _ hw).mono ?_
          rintro e w1 ⟨rfl, hb1⟩
          have hw1 := hw.below hb1
          go_wp2_with fail
          refine (do_below _ _ _ _).mono ?_
          rintro e w2 ⟨rfl, hb2⟩
          have hw2 := hw1.below hb2
          go_wp2_with fail
          refine (do_below _ _ _ _).mono ?_
          rintro e w3 ⟨rfl, hb3⟩
          have hw3 := hw2.below hb3
          go_wp2_with fail
          go_ret
          exact ⟨rfl, (below_two hb1 (below_two hb2 hb3))⟩
      · subst hs
        have hq1 : wrap64 (q * b) = a := by
          unfold wrap64 at hq ⊢
          omega
        by_cases hbn : b < 0
        · have g1 : 0 < -b := by omega
          have g3 : -9223372036854775807 ≤ b := by omega
          clear r1 r2 r3 h0 hm hq hrl hru hrI
          go_enter Tryd.func5, Tryd.ntmps5
          go_wp2_with fail
          refine (examples_any _ hw).mono ?_
          rintro e w1 ⟨rfl, hb1⟩
          have hw1 := hw.below hb1
          go_wp2_with fail
          refine (do_below _ _ _ _).mono ?_
          rintro e w2 ⟨rfl, hb2⟩
          have hw2 := hw1.below hb2
          go_wp2_with fail
          refine (do_below _ _ _ _).mono ?_
          rintro e w3 ⟨rfl, hb3⟩
          have hw3 := hw2.below hb3
          go_wp2_with fail
          go_ret
          exact ⟨rfl, (below_two hb1 (below_two hb2 hb3))⟩
        · have g1 : 0 < b := by omega
          have g2 : -b < 0 := by omega
          clear r1 r2 r3 h0 hm hq hrl hru hrI
          go_enter Tryd.func5, Tryd.ntmps5
          go_wp2_with fail
          refine (examples_any _ hw).mono ?_
          rintro e w1 ⟨rfl, hb1⟩
          have hw1 := hw.below hb1
          go_wp2_with fail
          refine (do_below _ _ _ _).mono ?_
          rintro e w2 ⟨rfl, hb2⟩
          have hw2 := hw1.below hb2
          go_wp2_with fail
          refine (do_below _ _ _ _).mono ?_
          rintro e w3 ⟨rfl, hb3⟩
          have hw3 := hw2.below hb3
          go_wp2_with fail
          go_ret
          exact ⟨rfl, (below_two hb1 (below_two hb2 hb3))⟩
      · have hs1 := r2 hs
        have e8 : decide (r < 0) = false := by simp; omega
        have e9 : decide (a < 0) = false := by simp; omega
        have e7 : (r != 0) = true := by rw [bne_iff_ne]; omega
        by_cases hbn : b < 0
        · have g1 : r < -b := by omega
          have g2 : b < r := by omega
          have g3 : -9223372036854775807 ≤ b := by omega
          clear r1 r2 r3 h0 hm hrI
          go_enter Tryd.func5, Tryd.ntmps5
          go_wp2_with fail
          refine (examples_any _ hw).mono ?_
          rintro e w1 ⟨rfl, hb1⟩
          have hw1 := hw.below hb1
          go_wp2_with fail
          refine (do_below _ _ _ _).mono ?_
          rintro e w2 ⟨rfl, hb2⟩
          have hw2 := hw1.below hb2
          go_wp2_with fail
          refine (do_below _ _ _ _).mono ?_
          rintro e w3 ⟨rfl, hb3⟩
          have hw3 := hw2.below hb3
          go_wp2_with fail
          go_ret
          exact ⟨rfl, (below_two hb1 (below_two hb2 hb3))⟩
        · have g1 : r < b := by omega
          have g2 : -b < r := by omega
          clear r1 r2 r3 h0 hm hrI
          go_enter Tryd.func5, Tryd.ntmps5
          go_wp2_with fail
          refine (examples_any _ hw).mono ?_
          rintro e w1 ⟨rfl, hb1⟩
          have hw1 := hw.below hb1
          go_wp2_with fail
          refine (do_below _ _ _ _).mono ?_
          rintro e w2 ⟨rfl, hb2⟩
          have hw2 := hw1.below hb2
          go_wp2_with fail
          refine (do_below _ _ _ _).mono ?_
          rintro e w3 ⟨rfl, hb3⟩
          have hw3 := hw2.below hb3
          go_wp2_with fail
          go_ret
          exact ⟨rfl, (below_two hb1 (below_two hb2 hb3))⟩
end Go.Proofs.YtmaambggjdjodaaDoor
