/- What a reader of num's bytes knows behind k bytes; no program is in sight. -/
import Derived.Test.YtecoeaeonedmnaaGreatDoorZ1
namespace Go.Proofs.YtecoeaeonedmnaaGreatDoor
open Go.RowKit
/-- behind k bytes, all of them with bit 7, which come to acc -/
def GRel (L : List UInt8) (k acc : Nat) : Prop :=
  (k ≤ 9 → acc < 128 ^ k) ∧ getF 10 true L = (getF (10 - k) (decide (k = 0)) (L.drop k)).map fun p => (acc + 128 ^ k * p.1, p.2 + k)
theorem grel_zero (L : List UInt8) : GRel L 0 0 := by
  refine ⟨fun _ => by simp, ?_⟩
  simp
theorem pow128 (k : Nat) : 128 ^ k = 2 ^ (7 * k) := by rw [Nat.pow_mul]
theorem or_add (acc d k : Nat) (h : acc < 128 ^ k) : acc ||| d * 128 ^ k = acc + d * 128 ^ k := by
  rw [pow128] at h ⊢
  rw [Nat.or_comm, ← Nat.shiftLeft_eq, ← Nat.shiftLeft_add_eq_or_of_lt h, Nat.add_comm]
theorem pow128_le (k : Nat) (h : k ≤ 9) : 128 ^ k ≤ 9223372036854775808 := Nat.le_trans (Nat.pow_le_pow_right (by omega) h) (by decide)
theorem pow128_le8 (k : Nat) (h : k ≤ 8) : 128 ^ k ≤ 72057594037927936 := Nat.le_trans (Nat.pow_le_pow_right (by omega) h) (by decide)
theorem drop_at {L : List UInt8} {k : Nat} {x : UInt8} (h : L[k]? = some x) : L.drop k = x :: L.drop (k + 1) := by
  obtain ⟨hk, rfl⟩ := List.getElem?_eq_some_iff.1 h
  exact List.drop_eq_getElem_cons hk
theorem grel_more {L : List UInt8} {k acc acc' e : Nat} {x : UInt8} (hk : k ≤ 9) (hL : L[k]? = some x) (hx : 128 ≤ x.toNat) (h : GRel L k acc)
    (he : e = (x.toNat % 128 * 2 ^ (7 * k)) % 18446744073709551616) (ha : acc' = acc ||| e) : GRel L (k + 1) acc' := by
  obtain ⟨h1, h2⟩ := h
  have hb := x.toNat_lt
  rw [drop_at hL, show 10 - k = (10 - (k + 1)) + 1 by omega, getF, if_pos hx] at h2
  have hd : decide (k + 1 = 0) = false := by simp
  rcases Nat.lt_or_ge k 9 with hk9 | hk9
  · have hp := pow128_le8 k (by omega)
    have hpos : 1 ≤ 128 ^ k := Nat.one_le_pow _ _ (by omega)
    have hm : x.toNat % 128 * 128 ^ k ≤ 9151314442816847872 := Nat.le_trans (Nat.mul_le_mul (show x.toNat % 128 ≤ 127 by omega) hp) (by decide)
    have hacc : acc' = acc + (x.toNat - 128) * 128 ^ k := by
      rw [ha, he, ← pow128, Nat.mod_eq_of_lt (by omega), or_add _ _ _ (h1 (by omega)), show x.toNat % 128 = x.toNat - 128 by omega]
    have hs : 128 ^ (k + 1) = 128 ^ k * 128 := Nat.pow_succ _ _
    refine ⟨fun _ => ?_, ?_⟩
    · have h0 := h1 (by omega)
      have hm2 : (x.toNat - 128) * 128 ^ k ≤ 127 * 128 ^ k := Nat.mul_le_mul_right _ (by omega)
      omega
    · rw [h2, hd, Option.map_map]
      congr 1
      funext p
      simp only [Function.comp, Prod.mk.injEq]
      refine ⟨?_, by omega⟩
      rw [hacc, hs, Nat.mul_add, Nat.mul_comm (128 ^ k) (x.toNat - 128), ← Nat.mul_assoc]
      omega
  · obtain rfl : k = 9 := by omega
    refine ⟨fun h => by omega, ?_⟩
    rw [h2, hd]
    simp [getF]
theorem grel_end {L : List UInt8} {k acc : Nat} (h : GRel L k acc) (hk : k = 10 ∨ L.length ≤ k) : getF 10 true L = none := by
  rw [h.2]
  rcases hk with rfl | hk
  · simp [getF]
  · rw [List.drop_eq_nil_of_le hk]
    cases 10 - k <;> simp [getF]
theorem grel_reject {L : List UInt8} {k acc : Nat} {x : UInt8} (hk : k ≤ 9) (hL : L[k]? = some x) (hx : x.toNat < 128) (h : GRel L k acc) (hr : (x.toNat = 0 ∧ 0 < k) ∨ (1 < x.toNat ∧ k = 9)) : getF 10 true L = none := by
  rw [h.2, drop_at hL, show 10 - k = (10 - (k + 1)) + 1 by omega, getF, if_neg (by omega), if_pos]
  · rfl
  · rcases hr with ⟨h1, h2⟩ | ⟨h1, h2⟩
    · exact Or.inl ⟨h1, by simp; omega⟩
    · exact Or.inr ⟨h1, by omega⟩
theorem grel_accept {L : List UInt8} {k acc acc' e : Nat} {x : UInt8} (hk : k ≤ 9) (hL : L[k]? = some x) (hx : x.toNat < 128) (h : GRel L k acc) (hr : ¬ ((x.toNat = 0 ∧ 0 < k) ∨ (1 < x.toNat ∧ k = 9)))
    (he : e = (x.toNat % 128 * 2 ^ (7 * k)) % 18446744073709551616) (ha : acc' = acc ||| e) : getF 10 true L = some (acc', k + 1) ∧ acc' < 18446744073709551616 := by
  have h1 := h.1 hk
  have hp := pow128_le k hk
  have hpos : 1 ≤ 128 ^ k := Nat.one_le_pow _ _ (by omega)
  have hm : x.toNat * 128 ^ k ≤ 9223372036854775808 := by
    rcases Nat.lt_or_ge k 9 with hk9 | hk9
    · have := pow128_le8 k (by omega)
      exact Nat.le_trans (Nat.mul_le_mul (show x.toNat ≤ 128 by omega) this) (by decide)
    · have : x.toNat ≤ 1 := by
        rcases Nat.lt_or_ge 1 x.toNat with h2 | h2
        · exact absurd (Or.inr ⟨h2, by omega⟩) hr
        · exact h2
      exact Nat.le_trans (Nat.mul_le_mul this hp) (by decide)
  have hacc : acc' = acc + x.toNat * 128 ^ k := by
    rw [ha, he, ← pow128, Nat.mod_eq_of_lt hx, Nat.mod_eq_of_lt (by omega), or_add _ _ _ h1]
  refine ⟨?_, by omega⟩
  rw [h.2, drop_at hL, show 10 - k = (10 - (k + 1)) + 1 by omega, getF, if_neg (by omega), if_neg]
  · simp only [Option.map_some, Option.some.injEq, Prod.mk.injEq]
    refine ⟨?_, by omega⟩
    rw [hacc, Nat.mul_comm]
  · rintro (⟨g1, g2⟩ | ⟨g1, g2⟩)
    · exact hr (Or.inl ⟨g1, by simp at g2; omega⟩)
    · exact hr (Or.inr ⟨g1, by omega⟩)
/-- what Get hands back, out of what is told -/
def gV (r : Option (Int × Int)) : Int := match r with | none => 0 | some p => p.1
def gN (r : Option (Int × Int)) : Int := match r with | none => 0 | some p => p.2
def gO (r : Option (Int × Int)) : Bool := r.isSome
def getEnd (r : Option (Int × Int)) : Ending := .returned (.tuple #[.int .i64 (gV r), .int .i64 (gN r), .bool (gO r)])
theorem getEnd_none : getEnd none = .returned (.tuple #[.int .i64 0, .int .i64 0, .bool false]) := rfl
theorem getEnd_some (a b : Int) : getEnd (some (a, b)) = .returned (.tuple #[.int .i64 a, .int .i64 b, .bool true]) := rfl
theorem getR_out (l : List UInt8) (a : Int) (h : a < 0 ∨ (l.length : Int) ≤ a) : getR l a = none := by unfold getR; rw [if_pos h]
theorem getR_none (l : List UInt8) (a : Nat) (h : getF 10 true (l.drop a) = none) : getR l a = none := by
  unfold getR
  split
  · rfl
  · rw [Int.toNat_natCast, h]; rfl
theorem getR_some (l : List UInt8) (a u c : Nat) (ha : a < l.length) (h : getF 10 true (l.drop a) = some (u, c)) : getR l a = some (zag u, (a : Int) + c) := by
  unfold getR
  rw [if_neg (by omega), Int.toNat_natCast, h]
  rfl
/-! bits -/
theorem u8_and127 (b : Nat) (h : b < 256) : bits BinOp.and IntKind.u8 (b : Int) 127 = ((b % 128 : Nat) : Int) := by
  rw [show (127 : Int) = ((127 : Nat) : Int) from rfl, u8_and_nat _ _ h (by omega)]
  congr 1
  exact Nat.and_two_pow_sub_one_eq_mod b 7
theorem u64_and1 (b : Nat) (h : b < 18446744073709551616) : bits BinOp.and IntKind.u64 (b : Int) 1 = ((b % 2 : Nat) : Int) := by
  rw [show (1 : Int) = ((1 : Nat) : Int) from rfl, u64_and_nat _ _ h (by omega)]
  congr 1
  exact Nat.and_two_pow_sub_one_eq_mod b 1
theorem u64_wrap_nat (x : Nat) : IntKind.u64.wrap (x : Int) = ((x % 18446744073709551616 : Nat) : Int) := by rw [IntKind.wrap_u64]; omega
theorem u64_shl (d k : Nat) : IntKind.u64.wrap ((d : Int) * 2 ^ (7 * k)) = ((d * 2 ^ (7 * k) % 18446744073709551616 : Nat) : Int) := by
  rw [← u64_wrap_nat]
  congr 1
theorem ofInt_i64 (a : Nat) (ha : a < 9223372036854775808) : (BitVec.ofInt 64 (a : Int)).toNat = a := by
  rw [BitVec.ofInt_natCast, BitVec.toNat_ofNat]; exact Nat.mod_eq_of_lt (by omega)
theorem i64_xor_nat (a b : Nat) (ha : a < 9223372036854775808) (hb : b < 9223372036854775808) : bits .xor .i64 (a : Int) (b : Int) = ((a ^^^ b : Nat) : Int) := by
  have hx : a ^^^ b < 2 ^ 63 := Nat.xor_lt_two_pow (by omega) (by omega)
  show IntKind.i64.wrap ((BitVec.ofInt 64 (a : Int) ^^^ BitVec.ofInt 64 (b : Int)).toNat : Int) = _
  rw [BitVec.toNat_xor, ofInt_i64 a ha, ofInt_i64 b hb, IntKind.wrap_i64]
  omega
theorem i64_xor_ones (a : Nat) (ha : a < 9223372036854775808) : bits .xor .i64 (a : Int) (-1) = -(a : Int) - 1 := by
  show IntKind.i64.wrap ((BitVec.ofInt 64 (a : Int) ^^^ BitVec.ofInt 64 (-1)).toNat : Int) = _
  have h1 : (BitVec.ofInt 64 (-1)).toNat = 18446744073709551615 := by decide
  rw [BitVec.toNat_xor, ofInt_i64 a ha, h1, xor_ones a (by omega), IntKind.wrap_i64]
  omega
end Go.Proofs.YtecoeaeonedmnaaGreatDoor
