/- cnf.Table, cnf.Implies. -/
import Derived.Test.YtlkgcidhhngfeaaGreatDoorHolds
import Derived.Test.YtlkgcidhhngfeaaGreatDoorLabN
namespace Go.Proofs.YtlkgcidhhngfeaaGreatDoor
open Go.RowKit
/-- the table's first k bits -/
def tabN (l : List UInt8) : Nat → Nat
  | 0 => 0
  | k + 1 => tabN l k ||| (if holdsL l (UInt8.ofNat k) then 2 ^ k else 0)
theorem tabN_lt (l : List UInt8) : ∀ k, tabN l k < 2 ^ k
  | 0 => by simp [tabN]
  | k + 1 => by
    have h := tabN_lt l k
    refine Nat.or_lt_two_pow (by rw [Nat.pow_succ]; omega) ?_
    split
    · exact Nat.pow_lt_pow_right (by omega) (by omega)
    · exact Nat.two_pow_pos _
theorem tabN_bit (l : List UInt8) (i : Nat) : ∀ k, (tabN l k).testBit i = (decide (i < k) && holdsL l (UInt8.ofNat i))
  | 0 => by simp [tabN]
  | k + 1 => by
    unfold tabN
    rw [Nat.testBit_or, tabN_bit l i k]
    by_cases hik : i = k
    · subst hik
      cases holdsL l (UInt8.ofNat i) <;> simp
    · have h : (if holdsL l (UInt8.ofNat k) = true then 2 ^ k else 0).testBit i = false := by
        split
        · rw [Nat.testBit_two_pow]; simp; omega
        · simp
      rw [h, Bool.or_false]
      congr 1
      rw [decide_eq_decide]
      omega
/-- b holds wherever a does -/
def impN (a b : List UInt8) : Bool := (List.range 64).all fun i => !holdsL a (UInt8.ofNat i) || holdsL b (UInt8.ofNat i)
theorem impN_tab (a b : List UInt8) : (tabN a 64 &&& (18446744073709551615 - tabN b 64) == 0) = impN a b := by
  have hb : tabN b 64 < 2 ^ 64 := tabN_lt b 64
  have hc : ∀ i, (18446744073709551615 - tabN b 64).testBit i = (decide (i < 64) && !holdsL b (UInt8.ofNat i)) := by
    intro i
    have h1 : 18446744073709551615 - tabN b 64 = 2 ^ 64 - (tabN b 64 + 1) := by omega
    rw [h1, Nat.testBit_two_pow_sub_succ hb, tabN_bit]
    by_cases hi : i < 64 <;> simp [hi]
  unfold impN
  rw [Bool.eq_iff_iff, beq_iff_eq, List.all_eq_true]
  constructor
  · intro h i hi
    have hi' : i < 64 := List.mem_range.1 hi
    have ht := congrArg (fun n => Nat.testBit n i) h
    simp only [Nat.testBit_and, hc, tabN_bit, Nat.zero_testBit, hi', decide_true, Bool.true_and] at ht
    revert ht
    cases holdsL a (UInt8.ofNat i) <;> cases holdsL b (UInt8.ofNat i) <;> simp
  · intro h
    refine Nat.eq_of_testBit_eq fun i => ?_
    rw [Nat.testBit_and, hc, tabN_bit, Nat.zero_testBit]
    by_cases hi : i < 64
    · have := h i (List.mem_range.2 hi)
      revert this
      simp only [hi, decide_true, Bool.true_and]
      cases holdsL a (UInt8.ofNat i) <;> cases holdsL b (UInt8.ofNat i) <;> simp
    · simp [hi]
theorem wrap_pow (k : Nat) (hk : k < 64) : IntKind.u64.wrap (2 ^ k) = ((2 ^ k : Nat) : Int) := by
  have : ∀ j : Fin 64, IntKind.u64.wrap (2 ^ j.val) = ((2 ^ j.val : Nat) : Int) := by decide
  exact this ⟨k, hk⟩
set_option maxRecDepth 100000 in
set_option maxHeartbeats 1000000 in
theorem table_any (s : ByteArray) (hs : s.size ≤ 140737488351232) (w : World) :
    Calls Tryz.prog 57 #[.string s] w fun e w' => e = .returned (.int .u64 ((tabN (normL s.data.toList) 64 : Nat) : Int)) ∧ Below w.heap.size w w' := by
  obtain ⟨X, hX⟩ : ∃ X, X = (⟨(normL s.data.toList).toArray⟩ : ByteArray) := ⟨_, rfl⟩
  obtain ⟨l, hl⟩ : ∃ l, l = normL s.data.toList := ⟨_, rfl⟩
  have hXl : X.data.toList = l := by rw [hX, hl]
  have hXs : X.size ≤ 140737488351232 := by
    have : X.data.toList.length ≤ 64 := by rw [hXl, hl]; exact normL_length _
    rw [Array.length_toList] at this
    exact Nat.le_trans this (by omega)
  have hn := norm_any s hs
  rw [← hX] at hn
  rw [← hl]
  have HXl := Lib.hid hXl
  clear hX hl hXl
  have hh := fun (y : UInt8) (w : World) => holdsF_any X hXs y w
  obtain ⟨A, hA⟩ : ∃ A, A = Ending.returned (.int .u64 ((tabN l 64 : Nat) : Int)) := ⟨_, rfl⟩
  rw [← hA]
  have HA := Lib.hid hA
  clear hA
  go_enter Tryz.func57, Tryz.ntmps57
  have hB0 := Below.refl w.heap.size w
  have M0 := Mem.nil w
  go_wp2_with fail
  refine Calls.named ?_
  intro W1 hW1
  have hB1_ : Below w.heap.size w W1 := by rw [hW1]; exact hB0
  have M1_ := Mem.nil W1
  clear hW1
  refine (hn _).mono ?_
  rintro e w1 ⟨rfl, hb1⟩
  have hB1 := below_then hB1_ hb1
  have M1 := M1_.below hb1
  clear M1_ hB1_ hb1
  go_wp2_with fail
  go_loopw [3, 7] (fun t i wr => ∃ k : Nat, k ≤ 64 ∧ i = .int .u8 (k : Int) ∧ t = .int .u64 ((tabN l k : Nat) : Int) ∧ Below w.heap.size w wr) (fun _ i _ => 64 - (intOf i).toNat)
  case atStart => exact ⟨0, by omega, rfl, rfl, hB1⟩
  case round =>
    obtain ⟨k, hk, rfl, rfl, hB⟩ := hrel
    by_cases hlt : k < 64
    · have hltI : (k : Int) < 64 := by omega
      have hsh := wrap_pow k hlt
      have hk8 : (k : Int) = ((UInt8.ofNat k).toNat : Int) := by
        rw [UInt8.toNat_ofNat']
        omega
      have hY := hh (UInt8.ofNat k)
      rw [← hk8, HXl.out] at hY
      obtain ⟨T, hT⟩ : ∃ T : Nat, T = tabN l k := ⟨_, rfl⟩
      have hT2 : tabN l (k + 1) = T ||| (if holdsL l (UInt8.ofNat k) then 2 ^ k else 0) := by rw [hT]; rfl
      have hTl : T < 18446744073709551616 := by
        have h1 := tabN_lt l k
        rw [hT]
        exact Nat.lt_of_lt_of_le h1 (Nat.pow_le_pow_right (by omega) (by omega : k ≤ 64))
      rw [← hT]
      have hPl : 2 ^ k < 18446744073709551616 := Nat.pow_lt_pow_right (by omega) (by omega : k < 64)
      obtain ⟨q, hq⟩ : ∃ q : Nat, q = 2 ^ k := ⟨_, rfl⟩
      rw [← hq] at hsh hPl hT2
      have HSH := Lib.hid hsh
      have HT2 := Lib.hid hT2
      have HTl := Lib.hid hTl
      have HPl := Lib.hid hPl
      clear hT hT2 hq hTl hPl hk8 hsh
      cases hho : holdsL l (UInt8.ofNat k) with
      | true =>
        rw [hho] at hY
        have h1 : Hid (tabN l (k + 1) = T ||| q) := Lib.hid (by rw [HT2.out, hho]; rfl)
        clear hho HT2
        go_wp2_with fail
        refine (hY _).mono ?_
        rintro e w2 ⟨rfl, hb2⟩
        go_wp2_with fail
        go_roundw
        case rel => exact ⟨k + 1, by omega, by go_num, by rw [h1.out, HSH.out, u64_or_nat _ _ HTl.out HPl.out], below_then hB hb2⟩
        case measure => simp [intOf]; omega
      | false =>
        rw [hho] at hY
        have h1 : Hid (tabN l (k + 1) = T) := Lib.hid (by rw [HT2.out, hho]; simp)
        clear hho HT2
        go_wp2_with fail
        refine (hY _).mono ?_
        rintro e w2 ⟨rfl, hb2⟩
        go_wp2_with fail
        go_roundw
        case rel => exact ⟨k + 1, by omega, by go_num, by rw [h1.out], below_then hB hb2⟩
        case measure => simp [intOf]; omega
    · obtain rfl : k = 64 := by omega
      go_wp2_with fail
      go_ret
      exact ⟨HA.out.symm, hB⟩
theorem nb_size (s : ByteArray) : (NB s).size ≤ 64 := by
  unfold NB
  show (normL s.data.toList).toArray.size ≤ 64
  rw [List.size_toArray]
  exact normL_length _
theorem nnorm_any (s : ByteArray) (hs : s.size ≤ 140737488351232) (w : World) :
    Calls Tryz.prog 48 #[.string s] w fun e w' => e = .returned (.string (NB s)) ∧ Below w.heap.size w w' := by
  unfold NB
  exact norm_any s hs w
set_option maxRecDepth 100000 in
set_option maxHeartbeats 1000000 in
theorem implies_gen (a b : ByteArray) (x y : Nat) (R : Bool) (hta : ∀ w, Calls Tryz.prog 57 #[.string a] w fun e w' => e = .returned (.int .u64 (x : Int)) ∧ Below w.heap.size w w')
    (htb : ∀ w, Calls Tryz.prog 57 #[.string b] w fun e w' => e = .returned (.int .u64 (y : Int)) ∧ Below w.heap.size w w')
    (h3 : (bits .andNot .u64 (x : Int) (y : Int) == 0) = R) (w : World) :
    Calls Tryz.prog 35 #[.string a, .string b] w fun e w' => e = .returned (.bool R) ∧ Below w.heap.size w w' := by
  go_enter Tryz.func35, Tryz.ntmps35
  have hB0 := Below.refl w.heap.size w
  have M0 := Mem.nil w
  go_wp2_with fail
  refine Calls.named ?_
  intro W1 hW1
  have hB1_ : Below w.heap.size w W1 := by rw [hW1]; exact hB0
  have M1_ := Mem.nil W1
  clear hW1
  refine (hta _).mono ?_
  rintro e w1 ⟨rfl, hb1⟩
  have hB1 := below_then hB1_ hb1
  have M1 := M1_.below hb1
  clear M1_ hB1_ hb1
  go_wp2_with fail
  refine Calls.named ?_
  intro W2 hW2
  have hB2_ : Below w.heap.size w W2 := by rw [hW2]; exact hB1
  have M2_ := Mem.nil W2
  clear hW2
  refine (htb _).mono ?_
  rintro e w2 ⟨rfl, hb2⟩
  have hB2 := below_then hB2_ hb2
  have M2 := M2_.below hb2
  clear M2_ hB2_ hb2
  go_wp2_with fail
  go_ret
  exact ⟨rfl, hB2⟩
/-- b holds wherever a does, of formulas as they come -/
def impF (a b : List UInt8) : Bool := impN (normL a) (normL b)
theorem implies_any (a b : ByteArray) (ha : a.size ≤ 140737488351232) (hb : b.size ≤ 140737488351232) (w : World) :
    Calls Tryz.prog 35 #[.string a, .string b] w fun e w' => e = .returned (.bool (impF a.data.toList b.data.toList)) ∧ Below w.heap.size w w' := by
  refine implies_gen a b _ _ _ (table_any a ha) (table_any b hb) ?_ w
  unfold impF
  rw [u64_andNot_nat _ _ (tabN_lt _ 64) (tabN_lt _ 64), ← impN_tab, Bool.eq_iff_iff, beq_iff_eq, beq_iff_eq]
  omega
set_option maxRecDepth 100000 in
set_option maxHeartbeats 1000000 in
theorem and_gen (a b x y z : ByteArray) (hx : x.size ≤ 64) (hy : y.size ≤ 64)
    (hna : ∀ w, Calls Tryz.prog 48 #[.string a] w fun e w' => e = .returned (.string x) ∧ Below w.heap.size w w')
    (hnb : ∀ w, Calls Tryz.prog 48 #[.string b] w fun e w' => e = .returned (.string y) ∧ Below w.heap.size w w')
    (hnn : ∀ w, Calls Tryz.prog 48 #[.string (x ++ y)] w fun e w' => e = .returned (.string z) ∧ Below w.heap.size w w') (w : World) :
    Calls Tryz.prog 45 #[.string a, .string b] w fun e w' => e = .returned (.string z) ∧ Below w.heap.size w w' := by
  have hsum : ¬ 9223372036854775807 < x.size + y.size := by omega
  have hsum2 : x.size + y.size ≤ 9223372036854775807 := by omega
  clear hx hy
  go_enter Tryz.func45, Tryz.ntmps45
  have hB0 := Below.refl w.heap.size w
  have M0 := Mem.nil w
  go_wp2_with fail
  refine Calls.named ?_
  intro W1 hW1
  have hB1_ : Below w.heap.size w W1 := by rw [hW1]; exact hB0
  have M1_ := Mem.nil W1
  clear hW1
  refine (hna _).mono ?_
  rintro e w1 ⟨rfl, hb1⟩
  have hB1 := below_then hB1_ hb1
  have M1 := M1_.below hb1
  clear M1_ hB1_ hb1
  go_wp2_with fail
  refine Calls.named ?_
  intro W2 hW2
  have hB2_ : Below w.heap.size w W2 := by rw [hW2]; exact hB1
  have M2_ := Mem.nil W2
  clear hW2
  refine (hnb _).mono ?_
  rintro e w2 ⟨rfl, hb2⟩
  have hB2 := below_then hB2_ hb2
  have M2 := M2_.below hb2
  clear M2_ hB2_ hb2
  go_wp2_with fail
  refine Calls.named ?_
  intro W3 hW3
  have hB3_ : Below w.heap.size w W3 := by rw [hW3]; exact hB2
  have M3_ := Mem.nil W3
  clear hW3
  refine (hnn _).mono ?_
  rintro e w3 ⟨rfl, hb3⟩
  have hB3 := below_then hB3_ hb3
  have M3 := M3_.below hb3
  clear M3_ hB3_ hb3
  go_wp2_with fail
  go_ret
  exact ⟨rfl, hB3⟩
theorem and_any (a b : ByteArray) (ha : a.size ≤ 140737488351232) (hb : b.size ≤ 140737488351232) (w : World) :
    Calls Tryz.prog 45 #[.string a, .string b] w fun e w' => e = .returned (.string (NB (NB a ++ NB b))) ∧ Below w.heap.size w w' :=
  and_gen a b _ _ _ (nb_size a) (nb_size b) (nnorm_any a ha) (nnorm_any b hb) (nnorm_any _ (by have := nb_size a; have := nb_size b; rw [ByteArray.size_append]; omega)) w
end Go.Proofs.YtlkgcidhhngfeaaGreatDoor
