/- What num's bytes are, as plain functions: seven bits a byte, the least first; that what is put is got, and what is got is put. No program is in sight. -/
import Derived.Test.YtcgelcccboifjaaDoorLib
namespace Go.Proofs.YtcgelcccboifjaaDoor
open Go.RowKit
/-- the number from 0 on -/
def zig (n : Int) : Nat := (if n < 0 then -2 * n - 1 else 2 * n).toNat
def zag (u : Nat) : Int := if u % 2 = 1 then -((u / 2 : Nat) : Int) - 1 else ((u / 2 : Nat) : Int)
theorem zig_lt (n : Int) (h : InI64 n) : zig n < 18446744073709551616 := by unfold InI64 at h; unfold zig; split <;> omega
theorem zag_zig (n : Int) : zag (zig n) = n := by unfold zag zig; split <;> split <;> omega
theorem zig_zag (u : Nat) : zig (zag u) = u := by unfold zag zig; split <;> split <;> omega
theorem zag_in (u : Nat) (h : u < 18446744073709551616) : InI64 (zag u) := by unfold InI64 zag; split <;> omega
theorem zig_inj {a b : Int} (h : zig a = zig b) : a = b := by rw [← zag_zig a, ← zag_zig b, h]

/-- as few digits of seven bits as there are, at most f -/
def lebF : Nat → Nat → List UInt8
  | 0, _ => []
  | f + 1, u => if u < 128 then [UInt8.ofNat u] else UInt8.ofNat (u % 128 + 128) :: lebF f (u / 128)
def getF : Nat → Bool → List UInt8 → Option (Nat × Nat)
  | 0, _, _ => none
  | _ + 1, _, [] => none
  | f + 1, first, b :: r => if 128 ≤ b.toNat then (getF f false r).map (fun p => (b.toNat - 128 + 128 * p.1, p.2 + 1))
      else if (b.toNat = 0 ∧ first = false) ∨ (1 < b.toNat ∧ f = 0) then none else some (b.toNat, 1)

theorem lebF_length (f u : Nat) : (lebF f u).length ≤ f := by
  induction f generalizing u with
  | zero => simp [lebF]
  | succ f ih =>
    unfold lebF
    split
    · simp
    · have := ih (u / 128); simp; omega
theorem lebF_pos (f u : Nat) : 1 ≤ (lebF (f + 1) u).length := by unfold lebF; split <;> simp
theorem ofNat_toNat8 (n : Nat) (h : n < 256) : (UInt8.ofNat n).toNat = n := by rw [UInt8.toNat_ofNat']; omega

theorem getF_lebF (f u : Nat) (fi : Bool) (r : List UInt8) (hu : u < 2 * 128 ^ f) (hf : fi = true ∨ 1 ≤ u) : getF (f + 1) fi (lebF (f + 1) u ++ r) = some (u, (lebF (f + 1) u).length) := by
  induction f generalizing u fi with
  | zero =>
    have hu' : u < 2 := by simpa using hu
    have h1 : u < 128 := by omega
    simp only [lebF, h1, if_true, List.singleton_append, getF, ofNat_toNat8 u (by omega)]
    rw [if_neg (by omega), if_neg (by rintro (⟨h0, h0'⟩ | ⟨h0, _⟩) <;> first | omega | (rcases hf with hf | hf <;> first | simp_all | omega))]
    simp
  | succ f ih =>
    have hpow : 128 ^ (f + 1) = 128 * 128 ^ f := by rw [Nat.pow_succ, Nat.mul_comm]
    by_cases h1 : u < 128
    · rw [lebF, if_pos h1]
      simp only [List.singleton_append, getF, ofNat_toNat8 u (by omega)]
      rw [if_neg (by omega), if_neg (by rintro (⟨h0, h0'⟩ | ⟨_, h0⟩) <;> first | omega | (rcases hf with hf | hf <;> first | simp_all | omega))]
      simp
    · rw [lebF, if_neg h1]
      simp only [List.cons_append]
      rw [getF, ofNat_toNat8 (u % 128 + 128) (by omega), if_pos (by omega), ih (u / 128) false (by omega) (Or.inr (by omega))]
      simp
      omega

theorem lebF_getF (f c : Nat) (u : Nat) (fi : Bool) (l : List UInt8) (h : getF (f + 1) fi l = some (u, c)) :
    l.take c = lebF (f + 1) u ∧ u < 2 * 128 ^ f ∧ (fi = false → 1 ≤ u) ∧ 1 ≤ c ∧ c ≤ l.length ∧ c = (lebF (f + 1) u).length := by
  induction f generalizing u fi l c with
  | zero =>
    match l, h with
    | [], h => simp [getF] at h
    | b :: r, h =>
      rw [getF] at h
      split at h
      · simp [getF] at h
      · split at h
        · simp at h
        · rename_i h1 h2
          simp only [Option.some.injEq, Prod.mk.injEq] at h
          obtain ⟨rfl, rfl⟩ := h
          have hb : ¬ (1 < b.toNat) := fun hb => h2 (Or.inr ⟨hb, rfl⟩)
          refine ⟨by simp [lebF, show b.toNat < 128 by omega], by omega, fun hf => ?_, by omega, by simp, by simp [lebF, show b.toNat < 128 by omega]⟩
          rcases Nat.eq_zero_or_pos b.toNat with h0 | h0
          · exact absurd (Or.inl ⟨h0, hf⟩) h2
          · exact h0
  | succ f ih =>
    have hpow : 128 ^ (f + 1) = 128 * 128 ^ f := by rw [Nat.pow_succ, Nat.mul_comm]
    have hpos : 1 ≤ 128 ^ f := Nat.one_le_pow _ _ (by omega)
    match l, h with
    | [], h => simp [getF] at h
    | b :: r, h =>
      rw [getF] at h
      have hb := b.toNat_lt
      split at h
      · rename_i h1
        rw [Option.map_eq_some_iff] at h
        obtain ⟨⟨v, d⟩, hg, he⟩ := h
        simp only [Prod.mk.injEq] at he
        obtain ⟨rfl, rfl⟩ := he
        obtain ⟨k1, k2, k3, k4, k5, k6⟩ := ih d v false r hg
        have hv := k3 rfl
        have hnot : ¬ (b.toNat - 128 + 128 * v < 128) := by omega
        have hdiv : (b.toNat - 128 + 128 * v) / 128 = v := by omega
        have hmod : (b.toNat - 128 + 128 * v) % 128 + 128 = b.toNat := by omega
        have hl : lebF (f + 1 + 1) (b.toNat - 128 + 128 * v) = b :: lebF (f + 1) v := by
          rw [lebF, if_neg hnot, hdiv, hmod, UInt8.ofNat_toNat]
        refine ⟨?_, by omega, by omega, by omega, by simp; omega, ?_⟩
        · rw [List.take_succ_cons, k1, hl]
        · rw [hl, List.length_cons, ← k6]
      · split at h
        · simp at h
        · rename_i h1 h2
          simp only [Option.some.injEq, Prod.mk.injEq] at h
          obtain ⟨rfl, rfl⟩ := h
          refine ⟨by simp [lebF, show b.toNat < 128 by omega], by omega, fun hf => ?_, by omega, by simp, by simp [lebF, show b.toNat < 128 by omega]⟩
          rcases Nat.eq_zero_or_pos b.toNat with h0 | h0
          · exact absurd (Or.inl ⟨h0, hf⟩) h2
          · exact h0

/-- Put, Get, as the chapter has them -/
def putL (n : Int) : List UInt8 := lebF 10 (zig n)
def getR (l : List UInt8) (at_ : Int) : Option (Int × Int) :=
  if at_ < 0 ∨ (l.length : Int) ≤ at_ then none else (getF 10 true (l.drop at_.toNat)).map fun p => (zag p.1, at_ + p.2)
theorem putL_length (n : Int) : (putL n).length ≤ 10 := lebF_length _ _
theorem putL_pos (n : Int) : 1 ≤ (putL n).length := lebF_pos _ _
theorem getR_putL (n : Int) (h : InI64 n) (a r : List UInt8) : getR (a ++ putL n ++ r) a.length = some (n, ((a.length + (putL n).length : Nat) : Int)) := by
  have hp := putL_pos n
  unfold getR
  rw [if_neg (by simp; omega), Int.toNat_natCast, List.append_assoc, List.drop_left, putL, getF_lebF 9 (zig n) true r (by have := zig_lt n h; omega) (Or.inl rfl)]
  simp [zag_zig]
theorem putL_getR (l : List UInt8) (at_ n next : Int) (h : getR l at_ = some (n, next)) :
    0 ≤ at_ ∧ at_ < next ∧ next ≤ l.length ∧ InI64 n ∧ (l.drop at_.toNat).take (next - at_).toNat = putL n ∧ next = at_ + (putL n).length := by
  unfold getR at h
  split at h
  · simp at h
  · rename_i ha
    rw [Option.map_eq_some_iff] at h
    obtain ⟨⟨u, c⟩, hg, he⟩ := h
    simp only [Prod.mk.injEq] at he
    obtain ⟨rfl, rfl⟩ := he
    obtain ⟨k1, k2, _, k4, k5, k6⟩ := lebF_getF 9 c u true _ hg
    rw [List.length_drop] at k5
    refine ⟨by omega, by omega, by omega, zag_in u (by omega), ?_, ?_⟩
    · rw [show (at_ + (c : Int) - at_).toNat = c by omega, k1, putL, zig_zag]
    · rw [putL, zig_zag, ← k6]
theorem putL_inj {a b : Int} (ha : InI64 a) (hb : InI64 b) (h : putL a = putL b) : a = b := by
  have h1 := getR_putL a ha [] []
  have h2 := getR_putL b hb [] []
  rw [h] at h1
  rw [h1] at h2
  simp only [Option.some.injEq, Prod.mk.injEq] at h2
  exact h2.1

/-! the walk's spellings -/
theorem xor_ones (a : Nat) (h : a < 18446744073709551616) : a ^^^ 18446744073709551615 = 18446744073709551615 - a := by
  have h1 : (BitVec.ofNat 64 a ^^^ BitVec.allOnes 64).toNat = a ^^^ 18446744073709551615 := by
    rw [BitVec.toNat_xor, BitVec.toNat_ofNat, BitVec.toNat_allOnes]
    rw [Nat.mod_eq_of_lt (by omega)]
  rw [← h1, BitVec.xor_allOnes, BitVec.toNat_not, BitVec.toNat_ofNat]
  rw [Nat.mod_eq_of_lt (by omega)]
theorem zig_xor_pos (n : Int) (h0 : 0 ≤ n) (h1 : n ≤ 9223372036854775807) : bits BinOp.xor IntKind.u64 (n * 2) (n / 9223372036854775808) = ((zig n : Nat) : Int) := by
  obtain ⟨m, rfl⟩ := Int.eq_ofNat_of_zero_le h0
  have e1 : ((m : Int) * 2) = ((2 * m : Nat) : Int) := by omega
  have e2 : ((m : Int) / 9223372036854775808) = ((0 : Nat) : Int) := by omega
  rw [e1, e2, u64_xor_nat (2 * m) 0 (by omega) (by omega), Nat.xor_zero]
  unfold zig
  rw [if_neg (by omega)]
  omega
theorem zig_xor_neg (n : Int) (h0 : n < 0) (h1 : -9223372036854775808 ≤ n) :
    bits BinOp.xor IntKind.u64 (IntKind.u64.wrap (IntKind.u64.wrap n * 2)) (IntKind.u64.wrap (n / 9223372036854775808)) = ((zig n : Nat) : Int) := by
  have e1 : IntKind.u64.wrap (IntKind.u64.wrap n * 2) = (((2 * n + 18446744073709551616).toNat : Nat) : Int) := by
    simp only [IntKind.wrap_u64]; omega
  have e2 : IntKind.u64.wrap (n / 9223372036854775808) = ((18446744073709551615 : Nat) : Int) := by
    simp only [IntKind.wrap_u64]; omega
  rw [e1, e2, u64_xor_nat _ _ (by omega) (by omega), xor_ones _ (by omega)]
  unfold zig
  rw [if_pos h0]
  omega
end Go.Proofs.YtcgelcccboifjaaDoor
