/- Sum and difference undo one another, sums go in any order, a product is as many sums, all modulo 2^64. The walk: the law answers true; no memory that was there is turned. Conditions: the integers are of their kinds, a string has at most 140737488351232 bytes, the listed package variables hold what the program's text lays. -/
import Derived.Test.YtmaambggjdjodaaDoorNumLaws
namespace Go.Proofs.YtmaambggjdjodaaDoor
open Go.RowKit
theorem wrap64_off (x : Int) : ∃ q, wrap64 x = x + 18446744073709551616 * q := ⟨-((x + 9223372036854775808) / 18446744073709551616), by unfold wrap64; omega⟩
theorem wrap64_more (x q : Int) : wrap64 (x + 18446744073709551616 * q) = wrap64 x := by unfold wrap64; omega
theorem add_sub (a b : Int) (ha : InI64 a) : doV 8 (doV 7 a b) b = a := by
  show wrap64 (wrap64 (a + b) - b) = a
  obtain ⟨h1, h2⟩ := ha
  unfold wrap64
  omega
theorem add_comm' (a b : Int) : doV 7 a b = doV 7 b a := by show wrap64 (a + b) = wrap64 (b + a); rw [Int.add_comm]
theorem mul_comm' (a b : Int) : doV 9 a b = doV 9 b a := by show wrap64 (a * b) = wrap64 (b * a); rw [Int.mul_comm]
theorem mul_add' (a b c : Int) : doV 9 a (doV 7 b c) = doV 7 (doV 9 a b) (doV 9 a c) := by
  show wrap64 (a * wrap64 (b + c)) = wrap64 (wrap64 (a * b) + wrap64 (a * c))
  obtain ⟨q, hq⟩ := wrap64_off (b + c)
  obtain ⟨p, hp⟩ := wrap64_off (a * b)
  obtain ⟨r, hr⟩ := wrap64_off (a * c)
  have h1 : a * wrap64 (b + c) = (a * b + a * c) + 18446744073709551616 * (a * q) := by rw [hq, Int.mul_add, Int.mul_add, Int.mul_left_comm]
  have h2 : wrap64 (a * b) + wrap64 (a * c) = (a * b + a * c) + 18446744073709551616 * (p + r) := by rw [hp, hr]; omega
  rw [h1, h2, wrap64_more, wrap64_more]
theorem add_neg (a : Int) : doV 7 a (doV 8 0 a) = 0 := by
  show wrap64 (a + wrap64 (0 - a)) = 0
  unfold wrap64
  omega
theorem mul_zero' (a : Int) : doV 9 a 0 = 0 := by show wrap64 (a * 0) = 0; rw [Int.mul_zero]; decide +kernel
theorem mul_succ' (a : Int) (i : Nat) : doV 7 (doV 9 a i) a = doV 9 a ((i + 1 : Nat) : Int) := by
  show wrap64 (wrap64 (a * i) + a) = wrap64 (a * ((i + 1 : Nat) : Int))
  obtain ⟨q, hq⟩ := wrap64_off (a * i)
  have h1 : wrap64 (a * i) + a = a * ((i + 1 : Nat) : Int) + 18446744073709551616 * q := by
    rw [hq, Int.natCast_add, Int.mul_add]
    simp
    omega
  rw [h1, wrap64_more]
set_option maxHeartbeats 1000000 in
theorem numWraps_walk (a b c k : Int) (ha : InI64 a) (_ : InI64 b) (_ : InI64 c) (hk : 0 ≤ k ∧ k ≤ 255) (w : World) (hw : Laid w) :
    Calls Tryd.prog 4 #[.int .i64 a, .int .i64 b, .int .i64 c, .int .u8 k] w fun e w' => e = .returned (.bool true) ∧ Below w.heap.size w w' := by
  obtain ⟨K, rfl⟩ := Int.eq_ofNat_of_zero_le hk.1
  have hK : K ≤ 255 := by omega
  clear hk
  have E1 := Lib.hid (add_sub a b ha)
  have E2 := Lib.hid (add_comm' a b)
  have E3 := Lib.hid (mul_comm' a b)
  have E4 := Lib.hid (mul_add' a b c)
  have E5 := Lib.hid (add_neg a)
  go_enter Tryd.func4, Tryd.ntmps4
  go_wp2_with fail
  refine (examples_any _ hw).mono ?_
  rintro e w1 ⟨rfl, hb1⟩
  have hw1 := hw.below hb1
  go_wp2_with fail
  go_loopw [10, 11] (fun s i wr => ∃ j : Nat, j ≤ K ∧ i = .int .i64 j ∧ s = .int .i64 (doV 9 a j) ∧ Below w1.heap.size w1 wr) (fun _ i _ => K - (intOf i).toNat)
  case atStart => exact ⟨0, by omega, rfl, by rw [show ((0 : Nat) : Int) = 0 from rfl, mul_zero'], Below.refl _ _⟩
  case round =>
    obtain ⟨j, hj, rfl, rfl, hbj⟩ := hrel
    have hwj := hw1.below hbj
    by_cases hlt : j < K
    · have hs := Lib.hid (mul_succ' a j)
      go_wp2_with fail
      refine (ldo_any _ _ _ _).mono ?_
      rw [hs.out]
      rintro e w2 ⟨rfl, hb2⟩
      go_wp2_with fail
      go_roundw
      case rel => exact ⟨j + 1, by omega, by go_num, rfl, below_two hbj hb2⟩
      case measure => simp [intOf]; omega
    · obtain rfl : j = K := by omega
      clear hlt hj
      go_wp2_with fail
      refine (ldo_any _ _ _ _).mono ?_
      rintro e w2 ⟨rfl, hb2⟩
      go_wp2_with fail
      refine (ldo_any _ _ _ _).mono ?_
      rintro e w3 ⟨rfl, hb3⟩
      go_wp2_with fail
      refine (ldo_any _ _ _ _).mono ?_
      rw [E1.out]
      rintro e w4 ⟨rfl, hb4⟩
      go_wp2_with fail
      refine (ldo_any _ _ _ _).mono ?_
      rintro e w5 ⟨rfl, hb5⟩
      go_wp2_with fail
      refine (ldo_any _ _ _ _).mono ?_
      rw [← E2.out]
      rintro e w6 ⟨rfl, hb6⟩
      go_wp2_with fail
      refine (ldo_any _ _ _ _).mono ?_
      rintro e w7 ⟨rfl, hb7⟩
      go_wp2_with fail
      refine (ldo_any _ _ _ _).mono ?_
      rw [← E3.out]
      rintro e w8 ⟨rfl, hb8⟩
      go_wp2_with fail
      refine (ldo_any _ _ _ _).mono ?_
      rintro e w9 ⟨rfl, hb9⟩
      go_wp2_with fail
      refine (ldo_any _ _ _ _).mono ?_
      rw [E4.out]
      rintro e w10 ⟨rfl, hb10⟩
      go_wp2_with fail
      refine (ldo_any _ _ _ _).mono ?_
      rintro e w11 ⟨rfl, hb11⟩
      go_wp2_with fail
      refine (ldo_any _ _ _ _).mono ?_
      rintro e w12 ⟨rfl, hb12⟩
      go_wp2_with fail
      refine (ldo_any _ _ _ _).mono ?_
      rintro e w13 ⟨rfl, hb13⟩
      go_wp2_with fail
      refine (ldo_any _ _ _ _).mono ?_
      rintro e w14 ⟨rfl, hb14⟩
      go_wp2_with fail
      refine (ldo_any _ _ _ _).mono ?_
      rw [E5.out]
      rintro e w15 ⟨rfl, hb15⟩
      go_wp2_with fail
      go_ret
      exact ⟨rfl, below_two hb1 (below_two hbj (below_two hb2 (below_two hb3 (below_two hb4 (below_two hb5 (below_two hb6 (below_two hb7 (below_two hb8 (below_two hb9 (below_two hb10 (below_two hb11 (below_two hb12 (below_two hb13 (below_two hb14 hb15))))))))))))))⟩
end Go.Proofs.YtmaambggjdjodaaDoor
