/- Of any texts, any numbers all is told as the chapter says (the reference's package). The walk: the law answers true; no memory that was there is turned. Conditions: the texts and the list have at most 1048576 letters and numbers, the integers are of their kinds, the listed package variables hold what the program's text lays. -/
import Derived.Test.YthgmogaiigkgfaaDoorRef6d
namespace Go.Proofs.YthgmogaiigkgfaaDoor
open Go.RowKit
theorem made_form {l : List Int} {S : List UInt8} {O : Bool} (hS : (ofL l).getD [] = S) (hO : (ofL l).isSome = O) {P : Program} {f : FuncId} {args : Array Value} {w : World} (h : Calls P f args w (MadeEnds w l)) :
    Calls P f args w fun e w' => e = .returned (.tuple #[.string ⟨S.toArray⟩, .bool O]) ∧ Below w.heap.size w w' := by
  unfold MadeEnds at h
  rw [hS, hO] at h
  exact h
theorem child_form {r : Option (List UInt8)} {S : List UInt8} {O : Bool} (hS : r.getD [] = S) (hO : r.isSome = O) {P : Program} {f : FuncId} {args : Array Value} {w : World} (h : Calls P f args w (ChildEnds w r)) :
    Calls P f args w fun e w' => e = .returned (.tuple #[.string ⟨S.toArray⟩, .bool O]) ∧ Below w.heap.size w w' := by
  unfold ChildEnds at h
  rw [hS, hO] at h
  exact h
set_option maxHeartbeats 4000000 in
theorem ntells_none (a b : ByteArray) (v : Value) (l : List Int) (n : Int) (ha : a.size ≤ 1048576) (hb : b.size ≤ 1048576) (hl : l.length ≤ 1048576) (w : World) (il : IntsAt w v l) (hw : Laid w)
    (S : List UInt8) (O : Bool) (HS : Hid ((ofL l).getD [] = S)) (HO : Hid ((ofL l).isSome = O)) (C : List UInt8) (K : Bool) (HC : Hid ((childS a.data.toList n).getD [] = C)) (HK : Hid ((childS a.data.toList n).isSome = K))
    (HX : Hid (readL a.data.toList = none)) (o : Int) (HOr : Hid (orderS a.data.toList b.data.toList = o)) (U : Bool) (HU : Hid (underS a.data.toList b.data.toList = U)) (ho : o = -1 ∨ o = 0 ∨ o = 1) :
    Calls Tryd.prog 3 #[.string a, .string b, v, .int .i64 n] w fun e w' => e = .returned (.bool true) ∧ Below w.heap.size w w' := by
  have ha' : a.size ≤ 140737488351232 := by omega
  have hb' : b.size ≤ 140737488351232 := by omega
  have HR : Hid ((readL a.data.toList).isSome = false) := Lib.hid (by rw [HX.out]; rfl)
  rcases ho with rfl | rfl | rfl
  all_goals
    go_enter Tryd.func3, Tryd.ntmps3
    have hB0 := Below.refl w.heap.size w
    have M0 := Mem.nil w
    go_wp2_with fail
    refine Calls.named ?_
    intro W1 hW1
    have hB1_ : Below w.heap.size w W1 := by rw [hW1]; exact hB0
    have hw1_ : Laid W1 := by rw [hW1]; exact hw
    have M1_ := Mem.nil W1
    have hS1 : Below w.heap.size w W1 := by rw [hW1]; exact (Below.refl _ _)
    have il_ := IntsAt.below il hS1
    clear hS1 il
    clear hW1
    refine (nexamples_any _ hw1_).mono ?_
    rintro e w1 ⟨rfl, hb1⟩
    have il := IntsAt.below il_ hb1
    clear il_
    have hB1 := below_then hB1_ hb1
    have hw1 := hw1_.below hb1
    have M1 := M1_.below hb1
    clear M1_ hB1_ hb1 hw1_
    go_wp2_with fail
    refine Calls.named ?_
    intro W2 hW2
    have hB2_ : Below w.heap.size w W2 := by rw [hW2]; exact hB1
    have hw2_ : Laid W2 := by rw [hW2]; exact hw1
    have M2_ := Mem.nil W2
    have hS2 : Below w1.heap.size w1 W2 := by rw [hW2]; exact (Below.refl _ _)
    have il_ := IntsAt.below il hS2
    clear hS2 il
    clear hW2
    refine (made_form HS.out HO.out (of_any _ _ _ il_ hw2_)).mono ?_
    rintro e w2 ⟨rfl, hb2⟩
    have il := IntsAt.below il_ hb2
    clear il_
    have hB2 := below_then hB2_ hb2
    have hw2 := hw2_.below hb2
    have M2 := M2_.below hb2
    clear M2_ hB2_ hb2 hw2_
    go_wp2_with fail
    refine Calls.named ?_
    intro W3 hW3
    have hB3_ : Below w.heap.size w W3 := by rw [hW3]; exact hB2
    have hw3_ : Laid W3 := by rw [hW3]; exact hw2
    have M3_ := Mem.nil W3
    have hS3 : Below w2.heap.size w2 W3 := by rw [hW3]; exact (Below.refl _ _)
    have il_ := IntsAt.below il hS3
    clear hS3 il
    clear hW3
    refine (made_form HS.out HO.out (of6_any _ _ _ il_ (by omega) hw3_)).mono ?_
    rintro e w3 ⟨rfl, hb3⟩
    have il := IntsAt.below il_ hb3
    clear il_
    have hB3 := below_then hB3_ hb3
    have hw3 := hw3_.below hb3
    have M3 := M3_.below hb3
    clear M3_ hB3_ hb3 hw3_
    clear il
    go_wp2_with fail
    refine Calls.named ?_
    intro W4 hW4
    have hB4_ : Below w.heap.size w W4 := by rw [hW4]; exact hB3
    have hw4_ : Laid W4 := by rw [hW4]; exact hw3
    have M4_ := Mem.nil W4
    clear hW4
    refine (child_form HC.out HK.out (child_any _ _ _ ha' hw4_)).mono ?_
    rintro e w4 ⟨rfl, hb4⟩
    have hB4 := below_then hB4_ hb4
    have hw4 := hw4_.below hb4
    have M4 := M4_.below hb4
    clear M4_ hB4_ hb4 hw4_
    go_wp2_with fail
    refine Calls.named ?_
    intro W5 hW5
    have hB5_ : Below w.heap.size w W5 := by rw [hW5]; exact hB4
    have hw5_ : Laid W5 := by rw [hW5]; exact hw4
    have M5_ := Mem.nil W5
    clear hW5
    refine (child_form HC.out HK.out (child6_any _ _ _ ha hw5_)).mono ?_
    rintro e w5 ⟨rfl, hb5⟩
    have hB5 := below_then hB5_ hb5
    have hw5 := hw5_.below hb5
    have M5 := M5_.below hb5
    clear M5_ hB5_ hb5 hw5_
    go_wp2_with fail
    refine Calls.named ?_
    intro W6 hW6
    have hB6_ : Below w.heap.size w W6 := by rw [hW6]; exact hB5
    have hw6_ : Laid W6 := by rw [hW6]; exact hw5
    have M6_ := Mem.nil W6
    clear hW6
    refine (parts_f HX.out _ ha' hw6_).mono ?_
    rintro e w6 ⟨rfl, hb6⟩
    have hB6 := below_then hB6_ hb6
    have hw6 := hw6_.below hb6
    have M6 := M6_.below hb6
    clear M6_ hB6_ hb6 hw6_
    go_wp2_with fail
    refine Calls.named ?_
    intro W7 hW7
    have hB7_ : Below w.heap.size w W7 := by rw [hW7]; exact hB6
    have hw7_ : Laid W7 := by rw [hW7]; exact hw6
    have M7_ := Mem.nil W7
    clear hW7
    refine (parts6_f HX.out _ ha hw7_).mono ?_
    rintro e w7 ⟨rfl, hb7⟩
    have hB7 := below_then hB7_ hb7
    have hw7 := hw7_.below hb7
    have M7 := M7_.below hb7
    clear M7_ hB7_ hb7 hw7_
    go_wp2_with fail
    go_loopw [20] (fun i W => i = .int .i64 0 ∧ Below w.heap.size w W ∧ Laid W) (fun _ _ => 0)
    case atStart => exact ⟨rfl, hB7, hw7⟩
    case round =>
      obtain ⟨rfl, hB8, hw8⟩ := hrel
      refine wp_named ?_
      intro w8 hW
      subst hW
      clear hB7 hw7 M7
      have M8 := Mem.nil w8
      go_wp2_with fail
      refine Calls.named ?_
      intro W9 hW9
      have hB9_ : Below w.heap.size w W9 := by rw [hW9]; exact hB8
      have hw9_ : Laid W9 := by rw [hW9]; exact hw8
      have M9_ := Mem.nil W9
      clear hW9
      refine (order_t HOr.out _ ha' hb' hw9_).mono ?_
      rintro e w9 ⟨rfl, hb9⟩
      have hB9 := below_then hB9_ hb9
      have hw9 := hw9_.below hb9
      have M9 := M9_.below hb9
      clear M9_ hB9_ hb9 hw9_
      go_wp2_with fail
      refine Calls.named ?_
      intro W10 hW10
      have hB10_ : Below w.heap.size w W10 := by rw [hW10]; exact hB9
      have hw10_ : Laid W10 := by rw [hW10]; exact hw9
      have M10_ := Mem.nil W10
      clear hW10
      refine (order6_any _ _ _ ha hb hw10_).mono ?_
      rw [HOr.out]
      rintro e w10 ⟨r, rfl, h1, h2, h3, h4, hb10⟩
      have hB10 := below_then hB10_ hb10
      have hw10 := hw10_.below hb10
      have M10 := M10_.below hb10
      clear M10_ hB10_ hb10 hw10_
      first | have d1 : decide (r < 0) = true := decide_eq_true (h1.2 (by omega)) | have d1 : decide (r < 0) = false := decide_eq_false (fun h => absurd (h1.1 h) (by omega))
      first | have d2 : decide (0 < r) = true := decide_eq_true (h2.2 (by omega)) | have d2 : decide (0 < r) = false := decide_eq_false (fun h => absurd (h2.1 h) (by omega))
      clear h1 h2
      go_wp2_with fail
      refine Calls.named ?_
      intro W11 hW11
      have hB11_ : Below w.heap.size w W11 := by rw [hW11]; exact hB10
      have hw11_ : Laid W11 := by rw [hW11]; exact hw10
      have M11_ := Mem.nil W11
      clear hW11
      refine (nright_t HR.out _ ha' hw11_).mono ?_
      rintro e w11 ⟨rfl, hb11⟩
      have hB11 := below_then hB11_ hb11
      have hw11 := hw11_.below hb11
      have M11 := M11_.below hb11
      clear M11_ hB11_ hb11 hw11_
      go_wp2_with fail
      refine Calls.named ?_
      intro W12 hW12
      have hB12_ : Below w.heap.size w W12 := by rw [hW12]; exact hB11
      have hw12_ : Laid W12 := by rw [hW12]; exact hw11
      have M12_ := Mem.nil W12
      clear hW12
      refine (right6_any _ _ ha hw12_).mono ?_
      rw [HR.out]
      rintro e w12 ⟨rfl, hb12⟩
      have hB12 := below_then hB12_ hb12
      have hw12 := hw12_.below hb12
      have M12 := M12_.below hb12
      clear M12_ hB12_ hb12 hw12_
      go_wp2_with fail
      refine Calls.named ?_
      intro W13 hW13
      have hB13_ : Below w.heap.size w W13 := by rw [hW13]; exact hB12
      have hw13_ : Laid W13 := by rw [hW13]; exact hw12
      have M13_ := Mem.nil W13
      clear hW13
      refine (under_t HU.out _ ha' hb' hw13_).mono ?_
      rintro e w13 ⟨rfl, hb13⟩
      have hB13 := below_then hB13_ hb13
      have hw13 := hw13_.below hb13
      have M13 := M13_.below hb13
      clear M13_ hB13_ hb13 hw13_
      go_wp2_with fail
      refine Calls.named ?_
      intro W14 hW14
      have hB14_ : Below w.heap.size w W14 := by rw [hW14]; exact hB13
      have hw14_ : Laid W14 := by rw [hW14]; exact hw13
      have M14_ := Mem.nil W14
      clear hW14
      refine (under6_any _ _ _ ha hb hw14_).mono ?_
      rw [HU.out]
      rintro e w14 ⟨rfl, hb14⟩
      have hB14 := below_then hB14_ hb14
      have hw14 := hw14_.below hb14
      have M14 := M14_.below hb14
      clear M14_ hB14_ hb14 hw14_
      go_wp2_with fail
      go_ret
      exact ⟨rfl, hB14⟩
set_option maxHeartbeats 4000000 in
theorem ntells_some (a b : ByteArray) (v : Value) (l : List Int) (n : Int) (ha : a.size ≤ 1048576) (hb : b.size ≤ 1048576) (hl : l.length ≤ 1048576) (w : World) (il : IntsAt w v l) (hw : Laid w)
    (S : List UInt8) (O : Bool) (HS : Hid ((ofL l).getD [] = S)) (HO : Hid ((ofL l).isSome = O)) (C : List UInt8) (K : Bool) (HC : Hid ((childS a.data.toList n).getD [] = C)) (HK : Hid ((childS a.data.toList n).isSome = K))
    (x : List Int) (hx : x.length ≤ 24) (hx1 : 1 ≤ x.length) (HX : Hid (readL a.data.toList = some x)) (o : Int) (HOr : Hid (orderS a.data.toList b.data.toList = o)) (U : Bool) (HU : Hid (underS a.data.toList b.data.toList = U)) (ho : o = -1 ∨ o = 0 ∨ o = 1) :
    Calls Tryd.prog 3 #[.string a, .string b, v, .int .i64 n] w fun e w' => e = .returned (.bool true) ∧ Below w.heap.size w w' := by
  have ha' : a.size ≤ 140737488351232 := by omega
  have hb' : b.size ≤ 140737488351232 := by omega
  have HR : Hid ((readL a.data.toList).isSome = true) := Lib.hid (by rw [HX.out]; rfl)
  rcases ho with rfl | rfl | rfl
  all_goals
    go_enter Tryd.func3, Tryd.ntmps3
    have hB0 := Below.refl w.heap.size w
    have M0 := Mem.nil w
    go_wp2_with fail
    refine Calls.named ?_
    intro W1 hW1
    have hB1_ : Below w.heap.size w W1 := by rw [hW1]; exact hB0
    have hw1_ : Laid W1 := by rw [hW1]; exact hw
    have M1_ := Mem.nil W1
    have hS1 : Below w.heap.size w W1 := by rw [hW1]; exact (Below.refl _ _)
    have il_ := IntsAt.below il hS1
    clear hS1 il
    clear hW1
    refine (nexamples_any _ hw1_).mono ?_
    rintro e w1 ⟨rfl, hb1⟩
    have il := IntsAt.below il_ hb1
    clear il_
    have hB1 := below_then hB1_ hb1
    have hw1 := hw1_.below hb1
    have M1 := M1_.below hb1
    clear M1_ hB1_ hb1 hw1_
    go_wp2_with fail
    refine Calls.named ?_
    intro W2 hW2
    have hB2_ : Below w.heap.size w W2 := by rw [hW2]; exact hB1
    have hw2_ : Laid W2 := by rw [hW2]; exact hw1
    have M2_ := Mem.nil W2
    have hS2 : Below w1.heap.size w1 W2 := by rw [hW2]; exact (Below.refl _ _)
    have il_ := IntsAt.below il hS2
    clear hS2 il
    clear hW2
    refine (made_form HS.out HO.out (of_any _ _ _ il_ hw2_)).mono ?_
    rintro e w2 ⟨rfl, hb2⟩
    have il := IntsAt.below il_ hb2
    clear il_
    have hB2 := below_then hB2_ hb2
    have hw2 := hw2_.below hb2
    have M2 := M2_.below hb2
    clear M2_ hB2_ hb2 hw2_
    go_wp2_with fail
    refine Calls.named ?_
    intro W3 hW3
    have hB3_ : Below w.heap.size w W3 := by rw [hW3]; exact hB2
    have hw3_ : Laid W3 := by rw [hW3]; exact hw2
    have M3_ := Mem.nil W3
    have hS3 : Below w2.heap.size w2 W3 := by rw [hW3]; exact (Below.refl _ _)
    have il_ := IntsAt.below il hS3
    clear hS3 il
    clear hW3
    refine (made_form HS.out HO.out (of6_any _ _ _ il_ (by omega) hw3_)).mono ?_
    rintro e w3 ⟨rfl, hb3⟩
    have il := IntsAt.below il_ hb3
    clear il_
    have hB3 := below_then hB3_ hb3
    have hw3 := hw3_.below hb3
    have M3 := M3_.below hb3
    clear M3_ hB3_ hb3 hw3_
    clear il
    go_wp2_with fail
    refine Calls.named ?_
    intro W4 hW4
    have hB4_ : Below w.heap.size w W4 := by rw [hW4]; exact hB3
    have hw4_ : Laid W4 := by rw [hW4]; exact hw3
    have M4_ := Mem.nil W4
    clear hW4
    refine (child_form HC.out HK.out (child_any _ _ _ ha' hw4_)).mono ?_
    rintro e w4 ⟨rfl, hb4⟩
    have hB4 := below_then hB4_ hb4
    have hw4 := hw4_.below hb4
    have M4 := M4_.below hb4
    clear M4_ hB4_ hb4 hw4_
    go_wp2_with fail
    refine Calls.named ?_
    intro W5 hW5
    have hB5_ : Below w.heap.size w W5 := by rw [hW5]; exact hB4
    have hw5_ : Laid W5 := by rw [hW5]; exact hw4
    have M5_ := Mem.nil W5
    clear hW5
    refine (child_form HC.out HK.out (child6_any _ _ _ ha hw5_)).mono ?_
    rintro e w5 ⟨rfl, hb5⟩
    have hB5 := below_then hB5_ hb5
    have hw5 := hw5_.below hb5
    have M5 := M5_.below hb5
    clear M5_ hB5_ hb5 hw5_
    go_wp2_with fail
    refine Calls.named ?_
    intro W6 hW6
    have hB6_ : Below w.heap.size w W6 := by rw [hW6]; exact hB5
    have hw6_ : Laid W6 := by rw [hW6]; exact hw5
    have M6_ := Mem.nil W6
    clear hW6
    refine (parts_t HX.out _ ha' hw6_).mono ?_
    rintro e w6 ⟨g, cp, rfl, hb6, hrow⟩
    have hB6 := below_then hB6_ hb6
    have hw6 := hw6_.below hb6
    have M6 := M6_.below hb6
    clear M6_ hB6_ hb6 hw6_
    have i1 := IntsAt.of_row hrow
    clear hrow
    go_wp2_with fail
    refine Calls.named ?_
    intro W7 hW7
    have hB7_ : Below w.heap.size w W7 := by rw [hW7]; exact hB6
    have hw7_ : Laid W7 := by rw [hW7]; exact hw6
    have M7_ := Mem.nil W7
    have hS7 : Below w6.heap.size w6 W7 := by rw [hW7]; exact (Below.refl _ _)
    have i1_ := IntsAt.below i1 hS7
    clear hS7 i1
    clear hW7
    refine (parts6_t HX.out _ ha hw7_).mono ?_
    rintro e w7 ⟨g2, cp2, rfl, hb7, hrow⟩
    have i1 := IntsAt.below i1_ hb7
    clear i1_
    have hB7 := below_then hB7_ hb7
    have hw7 := hw7_.below hb7
    have M7 := M7_.below hb7
    clear M7_ hB7_ hb7 hw7_
    have i2 := IntsAt.of_row hrow
    clear hrow
    go_wp2_with fail
    go_loopw [20] (fun i W => ∃ k : Nat, k ≤ x.length ∧ i = .int .i64 k ∧ Below w.heap.size w W ∧ Laid W ∧ IntsAt W (.slice (some ⟨g, 0, none⟩) x.length cp) x ∧ IntsAt W (.slice (some ⟨g2, 0, none⟩) x.length cp2) x) (fun i _ => x.length - (intOf i).toNat)
    case atStart => exact ⟨0, by omega, rfl, hB7, hw7, i1, i2⟩
    case round =>
      obtain ⟨k, hk, rfl, hbl, hwl, j1, j2⟩ := hrel
      refine wp_named ?_
      intro w8 hW
      subst hW
      clear i1 i2 hB7 hw7 M7 hB6 hw6 M6
      by_cases hlt : k < x.length
      · have hltI : (k : Int) < x.length := by omega
        have k0 : (0 : Int) ≤ k := by omega
        obtain ⟨b1, o1, hv1, cw⟩ : ∃ b off, (some ⟨g, 0, none⟩ : Option Addr) = some ⟨b, off, none⟩ ∧ w8.cell? ⟨b, off + k, none⟩ = some (.int .i64 (x.getD k 0)) := by
          rcases j1 with ⟨_, _, _, h0⟩ | ⟨b, off, cap', hv, h1, h2, hc⟩
          · subst h0; simp at hlt
          · simp only [Value.slice.injEq] at hv
            exact ⟨b, off, hv.1, hc k hlt⟩
        obtain ⟨b2, o2, hv2, dw⟩ : ∃ b off, (some ⟨g2, 0, none⟩ : Option Addr) = some ⟨b, off, none⟩ ∧ w8.cell? ⟨b, off + k, none⟩ = some (.int .i64 (x.getD k 0)) := by
          rcases j2 with ⟨_, _, _, h0⟩ | ⟨b, off, cap', hv, h1, h2, hc⟩
          · subst h0; simp at hlt
          · simp only [Value.slice.injEq] at hv
            exact ⟨b, off, hv.1, hc k hlt⟩
        simp only [Option.some.injEq, Addr.mk.injEq, and_true] at hv1 hv2
        obtain ⟨rfl, rfl⟩ := hv1
        obtain ⟨rfl, rfl⟩ := hv2
        rw [Nat.zero_add] at cw dw
        obtain ⟨m, hm⟩ : ∃ m, m = x.getD k 0 := ⟨_, rfl⟩
        rw [← hm] at cw dw
        clear hm
        go_wp2_with fail
        go_quiet (fail)
        go_wp2_with fail
        go_roundw
        case rel => exact ⟨k + 1, by omega, by go_num, below_then hbl (below_dn _ _), hwl.below (below_dn _ _), j1.below (below_dn _ _), j2.below (below_dn _ _)⟩
        case measure => simp [intOf]; omega
      · have hge : (x.length : Int) ≤ k := by omega
        have hB8 := hbl
        have hw8 := hwl
        have M8 := Mem.nil w8
        clear hbl hwl j1 j2 hlt
        go_wp2_with fail
        refine Calls.named ?_
        intro W9 hW9
        have hB9_ : Below w.heap.size w W9 := by rw [hW9]; exact hB8
        have hw9_ : Laid W9 := by rw [hW9]; exact hw8
        have M9_ := Mem.nil W9
        clear hW9
        refine (order_t HOr.out _ ha' hb' hw9_).mono ?_
        rintro e w9 ⟨rfl, hb9⟩
        have hB9 := below_then hB9_ hb9
        have hw9 := hw9_.below hb9
        have M9 := M9_.below hb9
        clear M9_ hB9_ hb9 hw9_
        go_wp2_with fail
        refine Calls.named ?_
        intro W10 hW10
        have hB10_ : Below w.heap.size w W10 := by rw [hW10]; exact hB9
        have hw10_ : Laid W10 := by rw [hW10]; exact hw9
        have M10_ := Mem.nil W10
        clear hW10
        refine (order6_any _ _ _ ha hb hw10_).mono ?_
        rw [HOr.out]
        rintro e w10 ⟨r, rfl, h1, h2, h3, h4, hb10⟩
        have hB10 := below_then hB10_ hb10
        have hw10 := hw10_.below hb10
        have M10 := M10_.below hb10
        clear M10_ hB10_ hb10 hw10_
        first | have d1 : decide (r < 0) = true := decide_eq_true (h1.2 (by omega)) | have d1 : decide (r < 0) = false := decide_eq_false (fun h => absurd (h1.1 h) (by omega))
        first | have d2 : decide (0 < r) = true := decide_eq_true (h2.2 (by omega)) | have d2 : decide (0 < r) = false := decide_eq_false (fun h => absurd (h2.1 h) (by omega))
        clear h1 h2
        go_wp2_with fail
        refine Calls.named ?_
        intro W11 hW11
        have hB11_ : Below w.heap.size w W11 := by rw [hW11]; exact hB10
        have hw11_ : Laid W11 := by rw [hW11]; exact hw10
        have M11_ := Mem.nil W11
        clear hW11
        refine (nright_t HR.out _ ha' hw11_).mono ?_
        rintro e w11 ⟨rfl, hb11⟩
        have hB11 := below_then hB11_ hb11
        have hw11 := hw11_.below hb11
        have M11 := M11_.below hb11
        clear M11_ hB11_ hb11 hw11_
        go_wp2_with fail
        refine Calls.named ?_
        intro W12 hW12
        have hB12_ : Below w.heap.size w W12 := by rw [hW12]; exact hB11
        have hw12_ : Laid W12 := by rw [hW12]; exact hw11
        have M12_ := Mem.nil W12
        clear hW12
        refine (right6_any _ _ ha hw12_).mono ?_
        rw [HR.out]
        rintro e w12 ⟨rfl, hb12⟩
        have hB12 := below_then hB12_ hb12
        have hw12 := hw12_.below hb12
        have M12 := M12_.below hb12
        clear M12_ hB12_ hb12 hw12_
        go_wp2_with fail
        refine Calls.named ?_
        intro W13 hW13
        have hB13_ : Below w.heap.size w W13 := by rw [hW13]; exact hB12
        have hw13_ : Laid W13 := by rw [hW13]; exact hw12
        have M13_ := Mem.nil W13
        clear hW13
        refine (under_t HU.out _ ha' hb' hw13_).mono ?_
        rintro e w13 ⟨rfl, hb13⟩
        have hB13 := below_then hB13_ hb13
        have hw13 := hw13_.below hb13
        have M13 := M13_.below hb13
        clear M13_ hB13_ hb13 hw13_
        go_wp2_with fail
        refine Calls.named ?_
        intro W14 hW14
        have hB14_ : Below w.heap.size w W14 := by rw [hW14]; exact hB13
        have hw14_ : Laid W14 := by rw [hW14]; exact hw13
        have M14_ := Mem.nil W14
        clear hW14
        refine (under6_any _ _ _ ha hb hw14_).mono ?_
        rw [HU.out]
        rintro e w14 ⟨rfl, hb14⟩
        have hB14 := below_then hB14_ hb14
        have hw14 := hw14_.below hb14
        have M14 := M14_.below hb14
        clear M14_ hB14_ hb14 hw14_
        go_wp2_with fail
        go_ret
        exact ⟨rfl, hB14⟩
theorem nameTells_walk (a b : ByteArray) (v : Value) (l : List Int) (n : Int) (ha : a.size ≤ 1048576) (hb : b.size ≤ 1048576) (hl : l.length ≤ 1048576) (_ : InI64 n) (w : World) (il : IntsAt w v l) (hw : Laid w) :
    Calls Tryd.prog 3 #[.string a, .string b, v, .int .i64 n] w fun e w' => e = .returned (.bool true) ∧ Below w.heap.size w w' := by
  cases h : readL a.data.toList with
  | none => exact ntells_none a b v l n ha hb hl w il hw _ _ (Lib.hid rfl) (Lib.hid rfl) _ _ (Lib.hid rfl) (Lib.hid rfl) (Lib.hid h) _ (Lib.hid rfl) _ (Lib.hid rfl) (orderS_range _ _)
  | some x => exact ntells_some a b v l n ha hb hl w il hw _ _ (Lib.hid rfl) (Lib.hid rfl) _ _ (Lib.hid rfl) (Lib.hid rfl) x (readL_some h).1.2.1 (readL_some h).1.1 (Lib.hid h) _ (Lib.hid rfl) _ (Lib.hid rfl) (orderS_range _ _)
end Go.Proofs.YthgmogaiigkgfaaDoor
