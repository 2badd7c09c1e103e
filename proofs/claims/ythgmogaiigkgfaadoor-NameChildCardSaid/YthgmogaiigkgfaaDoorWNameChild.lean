/- Each number has a child of its own below a name, which is under it, behind it, and under no other one's child. The walk: the law answers true; no memory that was there is turned. Conditions: the integers are of their kinds, a string has at most 140737488351232 bytes, the listed package variables hold what the program's text lays. -/
import Derived.Test.YthgmogaiigkgfaaDoorNameLawMade
import Derived.Test.YthgmogaiigkgfaaDoorWNameOrder
namespace Go.Proofs.YthgmogaiigkgfaaDoor
open Go.RowKit
set_option maxHeartbeats 4000000 in
theorem nchild_eq (va : Value) (a : List UInt8) (vb : Value) (b : List UInt8) (s : ByteArray) (x : List UInt8) (n : Int) (w : World) (ia : BytesAt w va a) (ib : BytesAt w vb b) (hw : Laid w)
    (hs : s.size ≤ 140737488351232)
    (MA : Hid (∀ W, BytesAt W va a → Laid W → Calls Tryd.prog 22 #[va, .int .i64 20] W fun e w' => e = .returned (.string s) ∧ Below W.heap.size W w')) (MB : Hid (∀ W, BytesAt W vb b → Laid W → Calls Tryd.prog 22 #[vb, .int .i64 20] W fun e w' => e = .returned (.string s) ∧ Below W.heap.size W w'))
    (CX : Hid (childS s.data.toList n = some x)) (CY : Hid (childS s.data.toList n = some x)) (n0 : 0 ≤ n) (n1 : n ≤ 999)
    (hx : (⟨x.toArray⟩ : ByteArray).size ≤ 140737488351232) (U1 : Hid (underS s.data.toList (⟨x.toArray⟩ : ByteArray).data.toList = true)) (U2 : Hid (underS (⟨x.toArray⟩ : ByteArray).data.toList s.data.toList = false)) (O1 : Hid (orderS s.data.toList (⟨x.toArray⟩ : ByteArray).data.toList = -1))
    (S : List Int) (hS : S.length ≤ 24) (R1 : Hid (readL (⟨x.toArray⟩ : ByteArray).data.toList = some (S ++ [n]))) (R2 : Hid (readL s.data.toList = some S)) :
    Calls Tryd.prog 6 #[va, vb, .int .i64 n, .int .i64 n] w fun e w' => e = .returned (.bool true) ∧ Below w.heap.size w w' := by
  go_enter Tryd.func6, Tryd.ntmps6
  have hB0 := Below.refl w.heap.size w
  have M0 := Mem.nil w
  go_wp2_with fail
  refine Calls.named ?_
  intro W1 hW1
  have hB1_ : Below w.heap.size w W1 := by rw [hW1]; exact hB0
  have hw1_ : Laid W1 := by rw [hW1]; exact hw
  have M1_ := Mem.nil W1
  have hS1 : Below w.heap.size w W1 := by rw [hW1]; exact (Below.refl _ _)
  have ia_ := BytesAt.below ia hS1
  have ib_ := BytesAt.below ib hS1
  clear hS1 ia ib
  clear hW1
  refine (nexamples_any _ hw1_).mono ?_
  rintro e w1 ⟨rfl, hb1⟩
  have ia := BytesAt.below ia_ hb1
  have ib := BytesAt.below ib_ hb1
  clear ia_ ib_
  have hB1 := below_then hB1_ hb1
  have hw1 := hw1_.below hb1
  have M1 := M1_.below hb1
  clear M1_ hB1_ hb1 hw1_
  go_wp2_with fail
  refine Calls.named ?_
  intro W2 hW2
  have hB2_ : Below w.heap.size w W2 := by rw [hW2]; exact hB1
  have hw2_ : Laid W2 := by rw [hW2]; exact hw1
  have M2_ := Mem.nil W2
  have hS2 : Below w1.heap.size w1 W2 := by rw [hW2]; exact (Below.refl _ _)
  have ia_ := BytesAt.below ia hS2
  have ib_ := BytesAt.below ib hS2
  clear hS2 ia ib
  clear hW2
  refine (MA.out _ ia_ hw2_).mono ?_
  rintro e w2 ⟨rfl, hb2⟩
  have ia := BytesAt.below ia_ hb2
  have ib := BytesAt.below ib_ hb2
  clear ia_ ib_
  have hB2 := below_then hB2_ hb2
  have hw2 := hw2_.below hb2
  have M2 := M2_.below hb2
  clear M2_ hB2_ hb2 hw2_
  go_wp2_with fail
  refine Calls.named ?_
  intro W3 hW3
  have hB3_ : Below w.heap.size w W3 := by rw [hW3]; exact hB2
  have hw3_ : Laid W3 := by rw [hW3]; exact hw2
  have M3_ := Mem.nil W3
  have hS3 : Below w2.heap.size w2 W3 := by rw [hW3]; exact (Below.refl _ _)
  have ia_ := BytesAt.below ia hS3
  have ib_ := BytesAt.below ib hS3
  clear hS3 ia ib
  clear hW3
  refine (MB.out _ ib_ hw3_).mono ?_
  rintro e w3 ⟨rfl, hb3⟩
  have ia := BytesAt.below ia_ hb3
  have ib := BytesAt.below ib_ hb3
  clear ia_ ib_
  have hB3 := below_then hB3_ hb3
  have hw3 := hw3_.below hb3
  have M3 := M3_.below hb3
  clear M3_ hB3_ hb3 hw3_
  clear ia
  clear ib
  go_wp2_with fail
  refine Calls.named ?_
  intro W4 hW4
  have hB4_ : Below w.heap.size w W4 := by rw [hW4]; exact hB3
  have hw4_ : Laid W4 := by rw [hW4]; exact hw3
  have M4_ := Mem.nil W4
  clear hW4
  refine (child_t CX.out _ hs hw4_).mono ?_
  rintro e w4 ⟨rfl, hb4⟩
  have hB4 := below_then hB4_ hb4
  have hw4 := hw4_.below hb4
  have M4 := M4_.below hb4
  clear M4_ hB4_ hb4 hw4_
  go_wp2_with fail
  refine Calls.named ?_
  intro W5 hW5
  have hB5_ : Below w.heap.size w W5 := by rw [hW5]; exact hB4
  have hw5_ : Laid W5 := by rw [hW5]; exact hw4
  have M5_ := Mem.nil W5
  clear hW5
  refine (child_t CY.out _ hs hw5_).mono ?_
  rintro e w5 ⟨rfl, hb5⟩
  have hB5 := below_then hB5_ hb5
  have hw5 := hw5_.below hb5
  have M5 := M5_.below hb5
  clear M5_ hB5_ hb5 hw5_
  go_wp2_with fail
  refine Calls.named ?_
  intro W6 hW6
  have hB6_ : Below w.heap.size w W6 := by rw [hW6]; exact hB5
  have hw6_ : Laid W6 := by rw [hW6]; exact hw5
  have M6_ := Mem.nil W6
  clear hW6
  refine (under_t U1.out _ hs hx hw6_).mono ?_
  rintro e w6 ⟨rfl, hb6⟩
  have hB6 := below_then hB6_ hb6
  have hw6 := hw6_.below hb6
  have M6 := M6_.below hb6
  clear M6_ hB6_ hb6 hw6_
  go_wp2_with fail
  refine Calls.named ?_
  intro W7 hW7
  have hB7_ : Below w.heap.size w W7 := by rw [hW7]; exact hB6
  have hw7_ : Laid W7 := by rw [hW7]; exact hw6
  have M7_ := Mem.nil W7
  clear hW7
  refine (under_t U2.out _ hx hs hw7_).mono ?_
  rintro e w7 ⟨rfl, hb7⟩
  have hB7 := below_then hB7_ hb7
  have hw7 := hw7_.below hb7
  have M7 := M7_.below hb7
  clear M7_ hB7_ hb7 hw7_
  go_wp2_with fail
  refine Calls.named ?_
  intro W8 hW8
  have hB8_ : Below w.heap.size w W8 := by rw [hW8]; exact hB7
  have hw8_ : Laid W8 := by rw [hW8]; exact hw7
  have M8_ := Mem.nil W8
  clear hW8
  refine (order_t O1.out _ hs hx hw8_).mono ?_
  rintro e w8 ⟨rfl, hb8⟩
  have hB8 := below_then hB8_ hb8
  have hw8 := hw8_.below hb8
  have M8 := M8_.below hb8
  clear M8_ hB8_ hb8 hw8_
  go_wp2_with fail
  refine Calls.named ?_
  intro W9 hW9
  have hB9_ : Below w.heap.size w W9 := by rw [hW9]; exact hB8
  have hw9_ : Laid W9 := by rw [hW9]; exact hw8
  have M9_ := Mem.nil W9
  clear hW9
  refine (parts_t R1.out _ hx hw9_).mono ?_
  rintro e w9 ⟨g, cp, rfl, hb9, hrow⟩
  have hB9 := below_then hB9_ hb9
  have hw9 := hw9_.below hb9
  have M9 := M9_.below hb9
  clear M9_ hB9_ hb9 hw9_
  clear hrow
  go_wp2_with fail
  refine Calls.named ?_
  intro W10 hW10
  have hB10_ : Below w.heap.size w W10 := by rw [hW10]; exact hB9
  have hw10_ : Laid W10 := by rw [hW10]; exact hw9
  have M10_ := Mem.nil W10
  clear hW10
  refine (parts_t R2.out _ hs hw10_).mono ?_
  rintro e w10 ⟨g2, cp2, rfl, hb10, hrow⟩
  have hB10 := below_then hB10_ hb10
  have hw10 := hw10_.below hb10
  have M10 := M10_.below hb10
  clear M10_ hB10_ hb10 hw10_
  clear hrow
  go_wp2_with fail
  go_ret
  exact ⟨rfl, hB10⟩
set_option maxHeartbeats 4000000 in
theorem nchild_arg (va : Value) (a : List UInt8) (vb : Value) (b : List UInt8) (s : ByteArray) (x : List UInt8) (y : List UInt8) (n m : Int) (w : World) (ia : BytesAt w va a) (ib : BytesAt w vb b) (hw : Laid w)
    (hs : s.size ≤ 140737488351232)
    (MA : Hid (∀ W, BytesAt W va a → Laid W → Calls Tryd.prog 22 #[va, .int .i64 20] W fun e w' => e = .returned (.string s) ∧ Below W.heap.size W w')) (MB : Hid (∀ W, BytesAt W vb b → Laid W → Calls Tryd.prog 22 #[vb, .int .i64 20] W fun e w' => e = .returned (.string s) ∧ Below W.heap.size W w'))
    (CX : Hid (childS s.data.toList n = some x)) (CY : Hid (childS s.data.toList m = some y)) (n0 : 0 ≤ n) (n1 : n ≤ 999) (e1 : (x == y) = false) (e2 : (n == m) = false)
    (hx : (⟨x.toArray⟩ : ByteArray).size ≤ 140737488351232) (U1 : Hid (underS s.data.toList (⟨x.toArray⟩ : ByteArray).data.toList = true)) (U2 : Hid (underS (⟨x.toArray⟩ : ByteArray).data.toList s.data.toList = false)) (O1 : Hid (orderS s.data.toList (⟨x.toArray⟩ : ByteArray).data.toList = -1))
    (S : List Int) (hS : S.length ≤ 24) (R1 : Hid (readL (⟨x.toArray⟩ : ByteArray).data.toList = some (S ++ [n]))) (R2 : Hid (readL s.data.toList = some S)) :
    Calls Tryd.prog 6 #[va, vb, .int .i64 n, .int .i64 m] w fun e w' => e = .returned (.bool true) ∧ Below w.heap.size w w' := by
  go_enter Tryd.func6, Tryd.ntmps6
  have hB0 := Below.refl w.heap.size w
  have M0 := Mem.nil w
  go_wp2_with fail
  refine Calls.named ?_
  intro W1 hW1
  have hB1_ : Below w.heap.size w W1 := by rw [hW1]; exact hB0
  have hw1_ : Laid W1 := by rw [hW1]; exact hw
  have M1_ := Mem.nil W1
  have hS1 : Below w.heap.size w W1 := by rw [hW1]; exact (Below.refl _ _)
  have ia_ := BytesAt.below ia hS1
  have ib_ := BytesAt.below ib hS1
  clear hS1 ia ib
  clear hW1
  refine (nexamples_any _ hw1_).mono ?_
  rintro e w1 ⟨rfl, hb1⟩
  have ia := BytesAt.below ia_ hb1
  have ib := BytesAt.below ib_ hb1
  clear ia_ ib_
  have hB1 := below_then hB1_ hb1
  have hw1 := hw1_.below hb1
  have M1 := M1_.below hb1
  clear M1_ hB1_ hb1 hw1_
  go_wp2_with fail
  refine Calls.named ?_
  intro W2 hW2
  have hB2_ : Below w.heap.size w W2 := by rw [hW2]; exact hB1
  have hw2_ : Laid W2 := by rw [hW2]; exact hw1
  have M2_ := Mem.nil W2
  have hS2 : Below w1.heap.size w1 W2 := by rw [hW2]; exact (Below.refl _ _)
  have ia_ := BytesAt.below ia hS2
  have ib_ := BytesAt.below ib hS2
  clear hS2 ia ib
  clear hW2
  refine (MA.out _ ia_ hw2_).mono ?_
  rintro e w2 ⟨rfl, hb2⟩
  have ia := BytesAt.below ia_ hb2
  have ib := BytesAt.below ib_ hb2
  clear ia_ ib_
  have hB2 := below_then hB2_ hb2
  have hw2 := hw2_.below hb2
  have M2 := M2_.below hb2
  clear M2_ hB2_ hb2 hw2_
  go_wp2_with fail
  refine Calls.named ?_
  intro W3 hW3
  have hB3_ : Below w.heap.size w W3 := by rw [hW3]; exact hB2
  have hw3_ : Laid W3 := by rw [hW3]; exact hw2
  have M3_ := Mem.nil W3
  have hS3 : Below w2.heap.size w2 W3 := by rw [hW3]; exact (Below.refl _ _)
  have ia_ := BytesAt.below ia hS3
  have ib_ := BytesAt.below ib hS3
  clear hS3 ia ib
  clear hW3
  refine (MB.out _ ib_ hw3_).mono ?_
  rintro e w3 ⟨rfl, hb3⟩
  have ia := BytesAt.below ia_ hb3
  have ib := BytesAt.below ib_ hb3
  clear ia_ ib_
  have hB3 := below_then hB3_ hb3
  have hw3 := hw3_.below hb3
  have M3 := M3_.below hb3
  clear M3_ hB3_ hb3 hw3_
  clear ia
  clear ib
  go_wp2_with fail
  refine Calls.named ?_
  intro W4 hW4
  have hB4_ : Below w.heap.size w W4 := by rw [hW4]; exact hB3
  have hw4_ : Laid W4 := by rw [hW4]; exact hw3
  have M4_ := Mem.nil W4
  clear hW4
  refine (child_t CX.out _ hs hw4_).mono ?_
  rintro e w4 ⟨rfl, hb4⟩
  have hB4 := below_then hB4_ hb4
  have hw4 := hw4_.below hb4
  have M4 := M4_.below hb4
  clear M4_ hB4_ hb4 hw4_
  go_wp2_with fail
  refine Calls.named ?_
  intro W5 hW5
  have hB5_ : Below w.heap.size w W5 := by rw [hW5]; exact hB4
  have hw5_ : Laid W5 := by rw [hW5]; exact hw4
  have M5_ := Mem.nil W5
  clear hW5
  refine (child_t CY.out _ hs hw5_).mono ?_
  rintro e w5 ⟨rfl, hb5⟩
  have hB5 := below_then hB5_ hb5
  have hw5 := hw5_.below hb5
  have M5 := M5_.below hb5
  clear M5_ hB5_ hb5 hw5_
  go_wp2_with fail
  refine Calls.named ?_
  intro W6 hW6
  have hB6_ : Below w.heap.size w W6 := by rw [hW6]; exact hB5
  have hw6_ : Laid W6 := by rw [hW6]; exact hw5
  have M6_ := Mem.nil W6
  clear hW6
  refine (under_t U1.out _ hs hx hw6_).mono ?_
  rintro e w6 ⟨rfl, hb6⟩
  have hB6 := below_then hB6_ hb6
  have hw6 := hw6_.below hb6
  have M6 := M6_.below hb6
  clear M6_ hB6_ hb6 hw6_
  go_wp2_with fail
  refine Calls.named ?_
  intro W7 hW7
  have hB7_ : Below w.heap.size w W7 := by rw [hW7]; exact hB6
  have hw7_ : Laid W7 := by rw [hW7]; exact hw6
  have M7_ := Mem.nil W7
  clear hW7
  refine (under_t U2.out _ hx hs hw7_).mono ?_
  rintro e w7 ⟨rfl, hb7⟩
  have hB7 := below_then hB7_ hb7
  have hw7 := hw7_.below hb7
  have M7 := M7_.below hb7
  clear M7_ hB7_ hb7 hw7_
  go_wp2_with fail
  refine Calls.named ?_
  intro W8 hW8
  have hB8_ : Below w.heap.size w W8 := by rw [hW8]; exact hB7
  have hw8_ : Laid W8 := by rw [hW8]; exact hw7
  have M8_ := Mem.nil W8
  clear hW8
  refine (order_t O1.out _ hs hx hw8_).mono ?_
  rintro e w8 ⟨rfl, hb8⟩
  have hB8 := below_then hB8_ hb8
  have hw8 := hw8_.below hb8
  have M8 := M8_.below hb8
  clear M8_ hB8_ hb8 hw8_
  go_wp2_with fail
  refine Calls.named ?_
  intro W9 hW9
  have hB9_ : Below w.heap.size w W9 := by rw [hW9]; exact hB8
  have hw9_ : Laid W9 := by rw [hW9]; exact hw8
  have M9_ := Mem.nil W9
  clear hW9
  refine (parts_t R1.out _ hx hw9_).mono ?_
  rintro e w9 ⟨g, cp, rfl, hb9, hrow⟩
  have hB9 := below_then hB9_ hb9
  have hw9 := hw9_.below hb9
  have M9 := M9_.below hb9
  clear M9_ hB9_ hb9 hw9_
  clear hrow
  go_wp2_with fail
  refine Calls.named ?_
  intro W10 hW10
  have hB10_ : Below w.heap.size w W10 := by rw [hW10]; exact hB9
  have hw10_ : Laid W10 := by rw [hW10]; exact hw9
  have M10_ := Mem.nil W10
  clear hW10
  refine (parts_t R2.out _ hs hw10_).mono ?_
  rintro e w10 ⟨g2, cp2, rfl, hb10, hrow⟩
  have hB10 := below_then hB10_ hb10
  have hw10 := hw10_.below hb10
  have M10 := M10_.below hb10
  clear M10_ hB10_ hb10 hw10_
  clear hrow
  go_wp2_with fail
  go_ret
  exact ⟨rfl, hB10⟩
set_option maxHeartbeats 4000000 in
theorem nchild_name (va : Value) (a : List UInt8) (vb : Value) (b : List UInt8) (s t : ByteArray) (x : List UInt8) (y : List UInt8) (n m : Int) (w : World) (ia : BytesAt w va a) (ib : BytesAt w vb b) (hw : Laid w)
    (hs : s.size ≤ 140737488351232) (ht : t.size ≤ 140737488351232)
    (MA : Hid (∀ W, BytesAt W va a → Laid W → Calls Tryd.prog 22 #[va, .int .i64 20] W fun e w' => e = .returned (.string s) ∧ Below W.heap.size W w')) (MB : Hid (∀ W, BytesAt W vb b → Laid W → Calls Tryd.prog 22 #[vb, .int .i64 20] W fun e w' => e = .returned (.string t) ∧ Below W.heap.size W w'))
    (CX : Hid (childS s.data.toList n = some x)) (CY : Hid (childS t.data.toList m = some y)) (n0 : 0 ≤ n) (n1 : n ≤ 999) (e1 : (x == y) = false) (e2 : (s.toList == t.toList) = false)
    (hx : (⟨x.toArray⟩ : ByteArray).size ≤ 140737488351232) (U1 : Hid (underS s.data.toList (⟨x.toArray⟩ : ByteArray).data.toList = true)) (U2 : Hid (underS (⟨x.toArray⟩ : ByteArray).data.toList s.data.toList = false)) (O1 : Hid (orderS s.data.toList (⟨x.toArray⟩ : ByteArray).data.toList = -1))
    (S : List Int) (hS : S.length ≤ 24) (R1 : Hid (readL (⟨x.toArray⟩ : ByteArray).data.toList = some (S ++ [n]))) (R2 : Hid (readL s.data.toList = some S)) :
    Calls Tryd.prog 6 #[va, vb, .int .i64 n, .int .i64 m] w fun e w' => e = .returned (.bool true) ∧ Below w.heap.size w w' := by
  go_enter Tryd.func6, Tryd.ntmps6
  have hB0 := Below.refl w.heap.size w
  have M0 := Mem.nil w
  go_wp2_with fail
  refine Calls.named ?_
  intro W1 hW1
  have hB1_ : Below w.heap.size w W1 := by rw [hW1]; exact hB0
  have hw1_ : Laid W1 := by rw [hW1]; exact hw
  have M1_ := Mem.nil W1
  have hS1 : Below w.heap.size w W1 := by rw [hW1]; exact (Below.refl _ _)
  have ia_ := BytesAt.below ia hS1
  have ib_ := BytesAt.below ib hS1
  clear hS1 ia ib
  clear hW1
  refine (nexamples_any _ hw1_).mono ?_
  rintro e w1 ⟨rfl, hb1⟩
  have ia := BytesAt.below ia_ hb1
  have ib := BytesAt.below ib_ hb1
  clear ia_ ib_
  have hB1 := below_then hB1_ hb1
  have hw1 := hw1_.below hb1
  have M1 := M1_.below hb1
  clear M1_ hB1_ hb1 hw1_
  go_wp2_with fail
  refine Calls.named ?_
  intro W2 hW2
  have hB2_ : Below w.heap.size w W2 := by rw [hW2]; exact hB1
  have hw2_ : Laid W2 := by rw [hW2]; exact hw1
  have M2_ := Mem.nil W2
  have hS2 : Below w1.heap.size w1 W2 := by rw [hW2]; exact (Below.refl _ _)
  have ia_ := BytesAt.below ia hS2
  have ib_ := BytesAt.below ib hS2
  clear hS2 ia ib
  clear hW2
  refine (MA.out _ ia_ hw2_).mono ?_
  rintro e w2 ⟨rfl, hb2⟩
  have ia := BytesAt.below ia_ hb2
  have ib := BytesAt.below ib_ hb2
  clear ia_ ib_
  have hB2 := below_then hB2_ hb2
  have hw2 := hw2_.below hb2
  have M2 := M2_.below hb2
  clear M2_ hB2_ hb2 hw2_
  go_wp2_with fail
  refine Calls.named ?_
  intro W3 hW3
  have hB3_ : Below w.heap.size w W3 := by rw [hW3]; exact hB2
  have hw3_ : Laid W3 := by rw [hW3]; exact hw2
  have M3_ := Mem.nil W3
  have hS3 : Below w2.heap.size w2 W3 := by rw [hW3]; exact (Below.refl _ _)
  have ia_ := BytesAt.below ia hS3
  have ib_ := BytesAt.below ib hS3
  clear hS3 ia ib
  clear hW3
  refine (MB.out _ ib_ hw3_).mono ?_
  rintro e w3 ⟨rfl, hb3⟩
  have ia := BytesAt.below ia_ hb3
  have ib := BytesAt.below ib_ hb3
  clear ia_ ib_
  have hB3 := below_then hB3_ hb3
  have hw3 := hw3_.below hb3
  have M3 := M3_.below hb3
  clear M3_ hB3_ hb3 hw3_
  clear ia
  clear ib
  go_wp2_with fail
  refine Calls.named ?_
  intro W4 hW4
  have hB4_ : Below w.heap.size w W4 := by rw [hW4]; exact hB3
  have hw4_ : Laid W4 := by rw [hW4]; exact hw3
  have M4_ := Mem.nil W4
  clear hW4
  refine (child_t CX.out _ hs hw4_).mono ?_
  rintro e w4 ⟨rfl, hb4⟩
  have hB4 := below_then hB4_ hb4
  have hw4 := hw4_.below hb4
  have M4 := M4_.below hb4
  clear M4_ hB4_ hb4 hw4_
  go_wp2_with fail
  refine Calls.named ?_
  intro W5 hW5
  have hB5_ : Below w.heap.size w W5 := by rw [hW5]; exact hB4
  have hw5_ : Laid W5 := by rw [hW5]; exact hw4
  have M5_ := Mem.nil W5
  clear hW5
  refine (child_t CY.out _ ht hw5_).mono ?_
  rintro e w5 ⟨rfl, hb5⟩
  have hB5 := below_then hB5_ hb5
  have hw5 := hw5_.below hb5
  have M5 := M5_.below hb5
  clear M5_ hB5_ hb5 hw5_
  go_wp2_with fail
  refine Calls.named ?_
  intro W6 hW6
  have hB6_ : Below w.heap.size w W6 := by rw [hW6]; exact hB5
  have hw6_ : Laid W6 := by rw [hW6]; exact hw5
  have M6_ := Mem.nil W6
  clear hW6
  refine (under_t U1.out _ hs hx hw6_).mono ?_
  rintro e w6 ⟨rfl, hb6⟩
  have hB6 := below_then hB6_ hb6
  have hw6 := hw6_.below hb6
  have M6 := M6_.below hb6
  clear M6_ hB6_ hb6 hw6_
  go_wp2_with fail
  refine Calls.named ?_
  intro W7 hW7
  have hB7_ : Below w.heap.size w W7 := by rw [hW7]; exact hB6
  have hw7_ : Laid W7 := by rw [hW7]; exact hw6
  have M7_ := Mem.nil W7
  clear hW7
  refine (under_t U2.out _ hx hs hw7_).mono ?_
  rintro e w7 ⟨rfl, hb7⟩
  have hB7 := below_then hB7_ hb7
  have hw7 := hw7_.below hb7
  have M7 := M7_.below hb7
  clear M7_ hB7_ hb7 hw7_
  go_wp2_with fail
  refine Calls.named ?_
  intro W8 hW8
  have hB8_ : Below w.heap.size w W8 := by rw [hW8]; exact hB7
  have hw8_ : Laid W8 := by rw [hW8]; exact hw7
  have M8_ := Mem.nil W8
  clear hW8
  refine (order_t O1.out _ hs hx hw8_).mono ?_
  rintro e w8 ⟨rfl, hb8⟩
  have hB8 := below_then hB8_ hb8
  have hw8 := hw8_.below hb8
  have M8 := M8_.below hb8
  clear M8_ hB8_ hb8 hw8_
  go_wp2_with fail
  refine Calls.named ?_
  intro W9 hW9
  have hB9_ : Below w.heap.size w W9 := by rw [hW9]; exact hB8
  have hw9_ : Laid W9 := by rw [hW9]; exact hw8
  have M9_ := Mem.nil W9
  clear hW9
  refine (parts_t R1.out _ hx hw9_).mono ?_
  rintro e w9 ⟨g, cp, rfl, hb9, hrow⟩
  have hB9 := below_then hB9_ hb9
  have hw9 := hw9_.below hb9
  have M9 := M9_.below hb9
  clear M9_ hB9_ hb9 hw9_
  clear hrow
  go_wp2_with fail
  refine Calls.named ?_
  intro W10 hW10
  have hB10_ : Below w.heap.size w W10 := by rw [hW10]; exact hB9
  have hw10_ : Laid W10 := by rw [hW10]; exact hw9
  have M10_ := Mem.nil W10
  clear hW10
  refine (parts_t R2.out _ hs hw10_).mono ?_
  rintro e w10 ⟨g2, cp2, rfl, hb10, hrow⟩
  have hB10 := below_then hB10_ hb10
  have hw10 := hw10_.below hb10
  have M10 := M10_.below hb10
  clear M10_ hB10_ hb10 hw10_
  clear hrow
  go_wp2_with fail
  go_ret
  exact ⟨rfl, hB10⟩
set_option maxHeartbeats 4000000 in
theorem nchild_yn (va : Value) (a : List UInt8) (vb : Value) (b : List UInt8) (s t : ByteArray) (x : List UInt8) (n m : Int) (w : World) (ia : BytesAt w va a) (ib : BytesAt w vb b) (hw : Laid w)
    (hs : s.size ≤ 140737488351232) (ht : t.size ≤ 140737488351232)
    (MA : Hid (∀ W, BytesAt W va a → Laid W → Calls Tryd.prog 22 #[va, .int .i64 20] W fun e w' => e = .returned (.string s) ∧ Below W.heap.size W w')) (MB : Hid (∀ W, BytesAt W vb b → Laid W → Calls Tryd.prog 22 #[vb, .int .i64 20] W fun e w' => e = .returned (.string t) ∧ Below W.heap.size W w'))
    (CX : Hid (childS s.data.toList n = some x)) (CY : Hid (childS t.data.toList m = none)) (n0 : 0 ≤ n) (n1 : n ≤ 999)
    (hx : (⟨x.toArray⟩ : ByteArray).size ≤ 140737488351232) (U1 : Hid (underS s.data.toList (⟨x.toArray⟩ : ByteArray).data.toList = true)) (U2 : Hid (underS (⟨x.toArray⟩ : ByteArray).data.toList s.data.toList = false)) (O1 : Hid (orderS s.data.toList (⟨x.toArray⟩ : ByteArray).data.toList = -1))
    (S : List Int) (hS : S.length ≤ 24) (R1 : Hid (readL (⟨x.toArray⟩ : ByteArray).data.toList = some (S ++ [n]))) (R2 : Hid (readL s.data.toList = some S)) :
    Calls Tryd.prog 6 #[va, vb, .int .i64 n, .int .i64 m] w fun e w' => e = .returned (.bool true) ∧ Below w.heap.size w w' := by
  go_enter Tryd.func6, Tryd.ntmps6
  have hB0 := Below.refl w.heap.size w
  have M0 := Mem.nil w
  go_wp2_with fail
  refine Calls.named ?_
  intro W1 hW1
  have hB1_ : Below w.heap.size w W1 := by rw [hW1]; exact hB0
  have hw1_ : Laid W1 := by rw [hW1]; exact hw
  have M1_ := Mem.nil W1
  have hS1 : Below w.heap.size w W1 := by rw [hW1]; exact (Below.refl _ _)
  have ia_ := BytesAt.below ia hS1
  have ib_ := BytesAt.below ib hS1
  clear hS1 ia ib
  clear hW1
  refine (nexamples_any _ hw1_).mono ?_
  rintro e w1 ⟨rfl, hb1⟩
  have ia := BytesAt.below ia_ hb1
  have ib := BytesAt.below ib_ hb1
  clear ia_ ib_
  have hB1 := below_then hB1_ hb1
  have hw1 := hw1_.below hb1
  have M1 := M1_.below hb1
  clear M1_ hB1_ hb1 hw1_
  go_wp2_with fail
  refine Calls.named ?_
  intro W2 hW2
  have hB2_ : Below w.heap.size w W2 := by rw [hW2]; exact hB1
  have hw2_ : Laid W2 := by rw [hW2]; exact hw1
  have M2_ := Mem.nil W2
  have hS2 : Below w1.heap.size w1 W2 := by rw [hW2]; exact (Below.refl _ _)
  have ia_ := BytesAt.below ia hS2
  have ib_ := BytesAt.below ib hS2
  clear hS2 ia ib
  clear hW2
  refine (MA.out _ ia_ hw2_).mono ?_
  rintro e w2 ⟨rfl, hb2⟩
  have ia := BytesAt.below ia_ hb2
  have ib := BytesAt.below ib_ hb2
  clear ia_ ib_
  have hB2 := below_then hB2_ hb2
  have hw2 := hw2_.below hb2
  have M2 := M2_.below hb2
  clear M2_ hB2_ hb2 hw2_
  go_wp2_with fail
  refine Calls.named ?_
  intro W3 hW3
  have hB3_ : Below w.heap.size w W3 := by rw [hW3]; exact hB2
  have hw3_ : Laid W3 := by rw [hW3]; exact hw2
  have M3_ := Mem.nil W3
  have hS3 : Below w2.heap.size w2 W3 := by rw [hW3]; exact (Below.refl _ _)
  have ia_ := BytesAt.below ia hS3
  have ib_ := BytesAt.below ib hS3
  clear hS3 ia ib
  clear hW3
  refine (MB.out _ ib_ hw3_).mono ?_
  rintro e w3 ⟨rfl, hb3⟩
  have ia := BytesAt.below ia_ hb3
  have ib := BytesAt.below ib_ hb3
  clear ia_ ib_
  have hB3 := below_then hB3_ hb3
  have hw3 := hw3_.below hb3
  have M3 := M3_.below hb3
  clear M3_ hB3_ hb3 hw3_
  clear ia
  clear ib
  go_wp2_with fail
  refine Calls.named ?_
  intro W4 hW4
  have hB4_ : Below w.heap.size w W4 := by rw [hW4]; exact hB3
  have hw4_ : Laid W4 := by rw [hW4]; exact hw3
  have M4_ := Mem.nil W4
  clear hW4
  refine (child_t CX.out _ hs hw4_).mono ?_
  rintro e w4 ⟨rfl, hb4⟩
  have hB4 := below_then hB4_ hb4
  have hw4 := hw4_.below hb4
  have M4 := M4_.below hb4
  clear M4_ hB4_ hb4 hw4_
  go_wp2_with fail
  refine Calls.named ?_
  intro W5 hW5
  have hB5_ : Below w.heap.size w W5 := by rw [hW5]; exact hB4
  have hw5_ : Laid W5 := by rw [hW5]; exact hw4
  have M5_ := Mem.nil W5
  clear hW5
  refine (child_f CY.out _ ht hw5_).mono ?_
  rintro e w5 ⟨rfl, hb5⟩
  have hB5 := below_then hB5_ hb5
  have hw5 := hw5_.below hb5
  have M5 := M5_.below hb5
  clear M5_ hB5_ hb5 hw5_
  go_wp2_with fail
  refine Calls.named ?_
  intro W6 hW6
  have hB6_ : Below w.heap.size w W6 := by rw [hW6]; exact hB5
  have hw6_ : Laid W6 := by rw [hW6]; exact hw5
  have M6_ := Mem.nil W6
  clear hW6
  refine (under_t U1.out _ hs hx hw6_).mono ?_
  rintro e w6 ⟨rfl, hb6⟩
  have hB6 := below_then hB6_ hb6
  have hw6 := hw6_.below hb6
  have M6 := M6_.below hb6
  clear M6_ hB6_ hb6 hw6_
  go_wp2_with fail
  refine Calls.named ?_
  intro W7 hW7
  have hB7_ : Below w.heap.size w W7 := by rw [hW7]; exact hB6
  have hw7_ : Laid W7 := by rw [hW7]; exact hw6
  have M7_ := Mem.nil W7
  clear hW7
  refine (under_t U2.out _ hx hs hw7_).mono ?_
  rintro e w7 ⟨rfl, hb7⟩
  have hB7 := below_then hB7_ hb7
  have hw7 := hw7_.below hb7
  have M7 := M7_.below hb7
  clear M7_ hB7_ hb7 hw7_
  go_wp2_with fail
  refine Calls.named ?_
  intro W8 hW8
  have hB8_ : Below w.heap.size w W8 := by rw [hW8]; exact hB7
  have hw8_ : Laid W8 := by rw [hW8]; exact hw7
  have M8_ := Mem.nil W8
  clear hW8
  refine (order_t O1.out _ hs hx hw8_).mono ?_
  rintro e w8 ⟨rfl, hb8⟩
  have hB8 := below_then hB8_ hb8
  have hw8 := hw8_.below hb8
  have M8 := M8_.below hb8
  clear M8_ hB8_ hb8 hw8_
  go_wp2_with fail
  refine Calls.named ?_
  intro W9 hW9
  have hB9_ : Below w.heap.size w W9 := by rw [hW9]; exact hB8
  have hw9_ : Laid W9 := by rw [hW9]; exact hw8
  have M9_ := Mem.nil W9
  clear hW9
  refine (parts_t R1.out _ hx hw9_).mono ?_
  rintro e w9 ⟨g, cp, rfl, hb9, hrow⟩
  have hB9 := below_then hB9_ hb9
  have hw9 := hw9_.below hb9
  have M9 := M9_.below hb9
  clear M9_ hB9_ hb9 hw9_
  clear hrow
  go_wp2_with fail
  refine Calls.named ?_
  intro W10 hW10
  have hB10_ : Below w.heap.size w W10 := by rw [hW10]; exact hB9
  have hw10_ : Laid W10 := by rw [hW10]; exact hw9
  have M10_ := Mem.nil W10
  clear hW10
  refine (parts_t R2.out _ hs hw10_).mono ?_
  rintro e w10 ⟨g2, cp2, rfl, hb10, hrow⟩
  have hB10 := below_then hB10_ hb10
  have hw10 := hw10_.below hb10
  have M10 := M10_.below hb10
  clear M10_ hB10_ hb10 hw10_
  clear hrow
  go_wp2_with fail
  go_ret
  exact ⟨rfl, hB10⟩
set_option maxHeartbeats 4000000 in
theorem nchild_ly (va : Value) (a : List UInt8) (vb : Value) (b : List UInt8) (s t : ByteArray) (y : List UInt8) (n m : Int) (w : World) (ia : BytesAt w va a) (ib : BytesAt w vb b) (hw : Laid w)
    (hs : s.size ≤ 140737488351232) (ht : t.size ≤ 140737488351232)
    (MA : Hid (∀ W, BytesAt W va a → Laid W → Calls Tryd.prog 22 #[va, .int .i64 20] W fun e w' => e = .returned (.string s) ∧ Below W.heap.size W w')) (MB : Hid (∀ W, BytesAt W vb b → Laid W → Calls Tryd.prog 22 #[vb, .int .i64 20] W fun e w' => e = .returned (.string t) ∧ Below W.heap.size W w'))
    (CX : Hid (childS s.data.toList n = none)) (CY : Hid (childS t.data.toList m = some y)) (n0 : n < 0) :
    Calls Tryd.prog 6 #[va, vb, .int .i64 n, .int .i64 m] w fun e w' => e = .returned (.bool true) ∧ Below w.heap.size w w' := by
  go_enter Tryd.func6, Tryd.ntmps6
  have hB0 := Below.refl w.heap.size w
  have M0 := Mem.nil w
  go_wp2_with fail
  refine Calls.named ?_
  intro W1 hW1
  have hB1_ : Below w.heap.size w W1 := by rw [hW1]; exact hB0
  have hw1_ : Laid W1 := by rw [hW1]; exact hw
  have M1_ := Mem.nil W1
  have hS1 : Below w.heap.size w W1 := by rw [hW1]; exact (Below.refl _ _)
  have ia_ := BytesAt.below ia hS1
  have ib_ := BytesAt.below ib hS1
  clear hS1 ia ib
  clear hW1
  refine (nexamples_any _ hw1_).mono ?_
  rintro e w1 ⟨rfl, hb1⟩
  have ia := BytesAt.below ia_ hb1
  have ib := BytesAt.below ib_ hb1
  clear ia_ ib_
  have hB1 := below_then hB1_ hb1
  have hw1 := hw1_.below hb1
  have M1 := M1_.below hb1
  clear M1_ hB1_ hb1 hw1_
  go_wp2_with fail
  refine Calls.named ?_
  intro W2 hW2
  have hB2_ : Below w.heap.size w W2 := by rw [hW2]; exact hB1
  have hw2_ : Laid W2 := by rw [hW2]; exact hw1
  have M2_ := Mem.nil W2
  have hS2 : Below w1.heap.size w1 W2 := by rw [hW2]; exact (Below.refl _ _)
  have ia_ := BytesAt.below ia hS2
  have ib_ := BytesAt.below ib hS2
  clear hS2 ia ib
  clear hW2
  refine (MA.out _ ia_ hw2_).mono ?_
  rintro e w2 ⟨rfl, hb2⟩
  have ia := BytesAt.below ia_ hb2
  have ib := BytesAt.below ib_ hb2
  clear ia_ ib_
  have hB2 := below_then hB2_ hb2
  have hw2 := hw2_.below hb2
  have M2 := M2_.below hb2
  clear M2_ hB2_ hb2 hw2_
  go_wp2_with fail
  refine Calls.named ?_
  intro W3 hW3
  have hB3_ : Below w.heap.size w W3 := by rw [hW3]; exact hB2
  have hw3_ : Laid W3 := by rw [hW3]; exact hw2
  have M3_ := Mem.nil W3
  have hS3 : Below w2.heap.size w2 W3 := by rw [hW3]; exact (Below.refl _ _)
  have ia_ := BytesAt.below ia hS3
  have ib_ := BytesAt.below ib hS3
  clear hS3 ia ib
  clear hW3
  refine (MB.out _ ib_ hw3_).mono ?_
  rintro e w3 ⟨rfl, hb3⟩
  have ia := BytesAt.below ia_ hb3
  have ib := BytesAt.below ib_ hb3
  clear ia_ ib_
  have hB3 := below_then hB3_ hb3
  have hw3 := hw3_.below hb3
  have M3 := M3_.below hb3
  clear M3_ hB3_ hb3 hw3_
  clear ia
  clear ib
  go_wp2_with fail
  refine Calls.named ?_
  intro W4 hW4
  have hB4_ : Below w.heap.size w W4 := by rw [hW4]; exact hB3
  have hw4_ : Laid W4 := by rw [hW4]; exact hw3
  have M4_ := Mem.nil W4
  clear hW4
  refine (child_f CX.out _ hs hw4_).mono ?_
  rintro e w4 ⟨rfl, hb4⟩
  have hB4 := below_then hB4_ hb4
  have hw4 := hw4_.below hb4
  have M4 := M4_.below hb4
  clear M4_ hB4_ hb4 hw4_
  go_wp2_with fail
  refine Calls.named ?_
  intro W5 hW5
  have hB5_ : Below w.heap.size w W5 := by rw [hW5]; exact hB4
  have hw5_ : Laid W5 := by rw [hW5]; exact hw4
  have M5_ := Mem.nil W5
  clear hW5
  refine (child_t CY.out _ ht hw5_).mono ?_
  rintro e w5 ⟨rfl, hb5⟩
  have hB5 := below_then hB5_ hb5
  have hw5 := hw5_.below hb5
  have M5 := M5_.below hb5
  clear M5_ hB5_ hb5 hw5_
  go_wp2_with fail
  go_ret
  exact ⟨rfl, hB5⟩
set_option maxHeartbeats 4000000 in
theorem nchild_ln (va : Value) (a : List UInt8) (vb : Value) (b : List UInt8) (s t : ByteArray) (n m : Int) (w : World) (ia : BytesAt w va a) (ib : BytesAt w vb b) (hw : Laid w)
    (hs : s.size ≤ 140737488351232) (ht : t.size ≤ 140737488351232)
    (MA : Hid (∀ W, BytesAt W va a → Laid W → Calls Tryd.prog 22 #[va, .int .i64 20] W fun e w' => e = .returned (.string s) ∧ Below W.heap.size W w')) (MB : Hid (∀ W, BytesAt W vb b → Laid W → Calls Tryd.prog 22 #[vb, .int .i64 20] W fun e w' => e = .returned (.string t) ∧ Below W.heap.size W w'))
    (CX : Hid (childS s.data.toList n = none)) (CY : Hid (childS t.data.toList m = none)) (n0 : n < 0) :
    Calls Tryd.prog 6 #[va, vb, .int .i64 n, .int .i64 m] w fun e w' => e = .returned (.bool true) ∧ Below w.heap.size w w' := by
  go_enter Tryd.func6, Tryd.ntmps6
  have hB0 := Below.refl w.heap.size w
  have M0 := Mem.nil w
  go_wp2_with fail
  refine Calls.named ?_
  intro W1 hW1
  have hB1_ : Below w.heap.size w W1 := by rw [hW1]; exact hB0
  have hw1_ : Laid W1 := by rw [hW1]; exact hw
  have M1_ := Mem.nil W1
  have hS1 : Below w.heap.size w W1 := by rw [hW1]; exact (Below.refl _ _)
  have ia_ := BytesAt.below ia hS1
  have ib_ := BytesAt.below ib hS1
  clear hS1 ia ib
  clear hW1
  refine (nexamples_any _ hw1_).mono ?_
  rintro e w1 ⟨rfl, hb1⟩
  have ia := BytesAt.below ia_ hb1
  have ib := BytesAt.below ib_ hb1
  clear ia_ ib_
  have hB1 := below_then hB1_ hb1
  have hw1 := hw1_.below hb1
  have M1 := M1_.below hb1
  clear M1_ hB1_ hb1 hw1_
  go_wp2_with fail
  refine Calls.named ?_
  intro W2 hW2
  have hB2_ : Below w.heap.size w W2 := by rw [hW2]; exact hB1
  have hw2_ : Laid W2 := by rw [hW2]; exact hw1
  have M2_ := Mem.nil W2
  have hS2 : Below w1.heap.size w1 W2 := by rw [hW2]; exact (Below.refl _ _)
  have ia_ := BytesAt.below ia hS2
  have ib_ := BytesAt.below ib hS2
  clear hS2 ia ib
  clear hW2
  refine (MA.out _ ia_ hw2_).mono ?_
  rintro e w2 ⟨rfl, hb2⟩
  have ia := BytesAt.below ia_ hb2
  have ib := BytesAt.below ib_ hb2
  clear ia_ ib_
  have hB2 := below_then hB2_ hb2
  have hw2 := hw2_.below hb2
  have M2 := M2_.below hb2
  clear M2_ hB2_ hb2 hw2_
  go_wp2_with fail
  refine Calls.named ?_
  intro W3 hW3
  have hB3_ : Below w.heap.size w W3 := by rw [hW3]; exact hB2
  have hw3_ : Laid W3 := by rw [hW3]; exact hw2
  have M3_ := Mem.nil W3
  have hS3 : Below w2.heap.size w2 W3 := by rw [hW3]; exact (Below.refl _ _)
  have ia_ := BytesAt.below ia hS3
  have ib_ := BytesAt.below ib hS3
  clear hS3 ia ib
  clear hW3
  refine (MB.out _ ib_ hw3_).mono ?_
  rintro e w3 ⟨rfl, hb3⟩
  have ia := BytesAt.below ia_ hb3
  have ib := BytesAt.below ib_ hb3
  clear ia_ ib_
  have hB3 := below_then hB3_ hb3
  have hw3 := hw3_.below hb3
  have M3 := M3_.below hb3
  clear M3_ hB3_ hb3 hw3_
  clear ia
  clear ib
  go_wp2_with fail
  refine Calls.named ?_
  intro W4 hW4
  have hB4_ : Below w.heap.size w W4 := by rw [hW4]; exact hB3
  have hw4_ : Laid W4 := by rw [hW4]; exact hw3
  have M4_ := Mem.nil W4
  clear hW4
  refine (child_f CX.out _ hs hw4_).mono ?_
  rintro e w4 ⟨rfl, hb4⟩
  have hB4 := below_then hB4_ hb4
  have hw4 := hw4_.below hb4
  have M4 := M4_.below hb4
  clear M4_ hB4_ hb4 hw4_
  go_wp2_with fail
  refine Calls.named ?_
  intro W5 hW5
  have hB5_ : Below w.heap.size w W5 := by rw [hW5]; exact hB4
  have hw5_ : Laid W5 := by rw [hW5]; exact hw4
  have M5_ := Mem.nil W5
  clear hW5
  refine (child_f CY.out _ ht hw5_).mono ?_
  rintro e w5 ⟨rfl, hb5⟩
  have hB5 := below_then hB5_ hb5
  have hw5 := hw5_.below hb5
  have M5 := M5_.below hb5
  clear M5_ hB5_ hb5 hw5_
  go_wp2_with fail
  go_ret
  exact ⟨rfl, hB5⟩
set_option maxHeartbeats 4000000 in
theorem nchild_hy (va : Value) (a : List UInt8) (vb : Value) (b : List UInt8) (s t : ByteArray) (y : List UInt8) (n m : Int) (w : World) (ia : BytesAt w va a) (ib : BytesAt w vb b) (hw : Laid w)
    (hs : s.size ≤ 140737488351232) (ht : t.size ≤ 140737488351232)
    (MA : Hid (∀ W, BytesAt W va a → Laid W → Calls Tryd.prog 22 #[va, .int .i64 20] W fun e w' => e = .returned (.string s) ∧ Below W.heap.size W w')) (MB : Hid (∀ W, BytesAt W vb b → Laid W → Calls Tryd.prog 22 #[vb, .int .i64 20] W fun e w' => e = .returned (.string t) ∧ Below W.heap.size W w'))
    (CX : Hid (childS s.data.toList n = none)) (CY : Hid (childS t.data.toList m = some y)) (n0 : 0 ≤ n) (n1 : 999 < n) :
    Calls Tryd.prog 6 #[va, vb, .int .i64 n, .int .i64 m] w fun e w' => e = .returned (.bool true) ∧ Below w.heap.size w w' := by
  go_enter Tryd.func6, Tryd.ntmps6
  have hB0 := Below.refl w.heap.size w
  have M0 := Mem.nil w
  go_wp2_with fail
  refine Calls.named ?_
  intro W1 hW1
  have hB1_ : Below w.heap.size w W1 := by rw [hW1]; exact hB0
  have hw1_ : Laid W1 := by rw [hW1]; exact hw
  have M1_ := Mem.nil W1
  have hS1 : Below w.heap.size w W1 := by rw [hW1]; exact (Below.refl _ _)
  have ia_ := BytesAt.below ia hS1
  have ib_ := BytesAt.below ib hS1
  clear hS1 ia ib
  clear hW1
  refine (nexamples_any _ hw1_).mono ?_
  rintro e w1 ⟨rfl, hb1⟩
  have ia := BytesAt.below ia_ hb1
  have ib := BytesAt.below ib_ hb1
  clear ia_ ib_
  have hB1 := below_then hB1_ hb1
  have hw1 := hw1_.below hb1
  have M1 := M1_.below hb1
  clear M1_ hB1_ hb1 hw1_
  go_wp2_with fail
  refine Calls.named ?_
  intro W2 hW2
  have hB2_ : Below w.heap.size w W2 := by rw [hW2]; exact hB1
  have hw2_ : Laid W2 := by rw [hW2]; exact hw1
  have M2_ := Mem.nil W2
  have hS2 : Below w1.heap.size w1 W2 := by rw [hW2]; exact (Below.refl _ _)
  have ia_ := BytesAt.below ia hS2
  have ib_ := BytesAt.below ib hS2
  clear hS2 ia ib
  clear hW2
  refine (MA.out _ ia_ hw2_).mono ?_
  rintro e w2 ⟨rfl, hb2⟩
  have ia := BytesAt.below ia_ hb2
  have ib := BytesAt.below ib_ hb2
  clear ia_ ib_
  have hB2 := below_then hB2_ hb2
  have hw2 := hw2_.below hb2
  have M2 := M2_.below hb2
  clear M2_ hB2_ hb2 hw2_
  go_wp2_with fail
  refine Calls.named ?_
  intro W3 hW3
  have hB3_ : Below w.heap.size w W3 := by rw [hW3]; exact hB2
  have hw3_ : Laid W3 := by rw [hW3]; exact hw2
  have M3_ := Mem.nil W3
  have hS3 : Below w2.heap.size w2 W3 := by rw [hW3]; exact (Below.refl _ _)
  have ia_ := BytesAt.below ia hS3
  have ib_ := BytesAt.below ib hS3
  clear hS3 ia ib
  clear hW3
  refine (MB.out _ ib_ hw3_).mono ?_
  rintro e w3 ⟨rfl, hb3⟩
  have ia := BytesAt.below ia_ hb3
  have ib := BytesAt.below ib_ hb3
  clear ia_ ib_
  have hB3 := below_then hB3_ hb3
  have hw3 := hw3_.below hb3
  have M3 := M3_.below hb3
  clear M3_ hB3_ hb3 hw3_
  clear ia
  clear ib
  go_wp2_with fail
  refine Calls.named ?_
  intro W4 hW4
  have hB4_ : Below w.heap.size w W4 := by rw [hW4]; exact hB3
  have hw4_ : Laid W4 := by rw [hW4]; exact hw3
  have M4_ := Mem.nil W4
  clear hW4
  refine (child_f CX.out _ hs hw4_).mono ?_
  rintro e w4 ⟨rfl, hb4⟩
  have hB4 := below_then hB4_ hb4
  have hw4 := hw4_.below hb4
  have M4 := M4_.below hb4
  clear M4_ hB4_ hb4 hw4_
  go_wp2_with fail
  refine Calls.named ?_
  intro W5 hW5
  have hB5_ : Below w.heap.size w W5 := by rw [hW5]; exact hB4
  have hw5_ : Laid W5 := by rw [hW5]; exact hw4
  have M5_ := Mem.nil W5
  clear hW5
  refine (child_t CY.out _ ht hw5_).mono ?_
  rintro e w5 ⟨rfl, hb5⟩
  have hB5 := below_then hB5_ hb5
  have hw5 := hw5_.below hb5
  have M5 := M5_.below hb5
  clear M5_ hB5_ hb5 hw5_
  go_wp2_with fail
  go_ret
  exact ⟨rfl, hB5⟩
set_option maxHeartbeats 4000000 in
theorem nchild_hn (va : Value) (a : List UInt8) (vb : Value) (b : List UInt8) (s t : ByteArray) (n m : Int) (w : World) (ia : BytesAt w va a) (ib : BytesAt w vb b) (hw : Laid w)
    (hs : s.size ≤ 140737488351232) (ht : t.size ≤ 140737488351232)
    (MA : Hid (∀ W, BytesAt W va a → Laid W → Calls Tryd.prog 22 #[va, .int .i64 20] W fun e w' => e = .returned (.string s) ∧ Below W.heap.size W w')) (MB : Hid (∀ W, BytesAt W vb b → Laid W → Calls Tryd.prog 22 #[vb, .int .i64 20] W fun e w' => e = .returned (.string t) ∧ Below W.heap.size W w'))
    (CX : Hid (childS s.data.toList n = none)) (CY : Hid (childS t.data.toList m = none)) (n0 : 0 ≤ n) (n1 : 999 < n) :
    Calls Tryd.prog 6 #[va, vb, .int .i64 n, .int .i64 m] w fun e w' => e = .returned (.bool true) ∧ Below w.heap.size w w' := by
  go_enter Tryd.func6, Tryd.ntmps6
  have hB0 := Below.refl w.heap.size w
  have M0 := Mem.nil w
  go_wp2_with fail
  refine Calls.named ?_
  intro W1 hW1
  have hB1_ : Below w.heap.size w W1 := by rw [hW1]; exact hB0
  have hw1_ : Laid W1 := by rw [hW1]; exact hw
  have M1_ := Mem.nil W1
  have hS1 : Below w.heap.size w W1 := by rw [hW1]; exact (Below.refl _ _)
  have ia_ := BytesAt.below ia hS1
  have ib_ := BytesAt.below ib hS1
  clear hS1 ia ib
  clear hW1
  refine (nexamples_any _ hw1_).mono ?_
  rintro e w1 ⟨rfl, hb1⟩
  have ia := BytesAt.below ia_ hb1
  have ib := BytesAt.below ib_ hb1
  clear ia_ ib_
  have hB1 := below_then hB1_ hb1
  have hw1 := hw1_.below hb1
  have M1 := M1_.below hb1
  clear M1_ hB1_ hb1 hw1_
  go_wp2_with fail
  refine Calls.named ?_
  intro W2 hW2
  have hB2_ : Below w.heap.size w W2 := by rw [hW2]; exact hB1
  have hw2_ : Laid W2 := by rw [hW2]; exact hw1
  have M2_ := Mem.nil W2
  have hS2 : Below w1.heap.size w1 W2 := by rw [hW2]; exact (Below.refl _ _)
  have ia_ := BytesAt.below ia hS2
  have ib_ := BytesAt.below ib hS2
  clear hS2 ia ib
  clear hW2
  refine (MA.out _ ia_ hw2_).mono ?_
  rintro e w2 ⟨rfl, hb2⟩
  have ia := BytesAt.below ia_ hb2
  have ib := BytesAt.below ib_ hb2
  clear ia_ ib_
  have hB2 := below_then hB2_ hb2
  have hw2 := hw2_.below hb2
  have M2 := M2_.below hb2
  clear M2_ hB2_ hb2 hw2_
  go_wp2_with fail
  refine Calls.named ?_
  intro W3 hW3
  have hB3_ : Below w.heap.size w W3 := by rw [hW3]; exact hB2
  have hw3_ : Laid W3 := by rw [hW3]; exact hw2
  have M3_ := Mem.nil W3
  have hS3 : Below w2.heap.size w2 W3 := by rw [hW3]; exact (Below.refl _ _)
  have ia_ := BytesAt.below ia hS3
  have ib_ := BytesAt.below ib hS3
  clear hS3 ia ib
  clear hW3
  refine (MB.out _ ib_ hw3_).mono ?_
  rintro e w3 ⟨rfl, hb3⟩
  have ia := BytesAt.below ia_ hb3
  have ib := BytesAt.below ib_ hb3
  clear ia_ ib_
  have hB3 := below_then hB3_ hb3
  have hw3 := hw3_.below hb3
  have M3 := M3_.below hb3
  clear M3_ hB3_ hb3 hw3_
  clear ia
  clear ib
  go_wp2_with fail
  refine Calls.named ?_
  intro W4 hW4
  have hB4_ : Below w.heap.size w W4 := by rw [hW4]; exact hB3
  have hw4_ : Laid W4 := by rw [hW4]; exact hw3
  have M4_ := Mem.nil W4
  clear hW4
  refine (child_f CX.out _ hs hw4_).mono ?_
  rintro e w4 ⟨rfl, hb4⟩
  have hB4 := below_then hB4_ hb4
  have hw4 := hw4_.below hb4
  have M4 := M4_.below hb4
  clear M4_ hB4_ hb4 hw4_
  go_wp2_with fail
  refine Calls.named ?_
  intro W5 hW5
  have hB5_ : Below w.heap.size w W5 := by rw [hW5]; exact hB4
  have hw5_ : Laid W5 := by rw [hW5]; exact hw4
  have M5_ := Mem.nil W5
  clear hW5
  refine (child_f CY.out _ ht hw5_).mono ?_
  rintro e w5 ⟨rfl, hb5⟩
  have hB5 := below_then hB5_ hb5
  have hw5 := hw5_.below hb5
  have M5 := M5_.below hb5
  clear M5_ hB5_ hb5 hw5_
  go_wp2_with fail
  go_ret
  exact ⟨rfl, hB5⟩
theorem child_mk {l : List Int} (fl : Fits l) (hl : l.length ≤ 23) (n : Int) : childS (⟨(joinL l).toArray⟩ : ByteArray).data.toList n = if 0 ≤ n ∧ n ≤ 999 then some (joinL (l ++ [n])) else none := by
  unfold childS
  rw [readL_mk fl]
  show ofL (l ++ [n]) = _
  unfold ofL
  by_cases h : 0 ≤ n ∧ n ≤ 999
  · rw [if_pos h, if_pos]
    refine ⟨by simp, by simp; omega, ?_⟩
    intro k hk
    rcases List.mem_append.1 hk with hk | hk
    · exact fl.2.2 k hk
    · simp at hk
      rw [hk]
      exact h
  · rw [if_neg h, if_neg]
    intro hf
    exact h (hf.2.2 n (by simp))
theorem fits_child {l : List Int} (fl : Fits l) (hl : l.length ≤ 23) {n : Int} (h : 0 ≤ n ∧ n ≤ 999) : Fits (l ++ [n]) := by
  refine ⟨by simp, by simp; omega, ?_⟩
  intro k hk
  rcases List.mem_append.1 hk with hk | hk
  · exact fl.2.2 k hk
  · simp at hk
    rw [hk]
    exact h
theorem nameChild_walk (va : Value) (a : List UInt8) (vb : Value) (b : List UInt8) (n m : Int) (_ : InI64 n) (_ : InI64 m) (w : World) (ia : BytesAt w va a) (ib : BytesAt w vb b) (hw : Laid w) :
    Calls Tryd.prog 6 #[va, vb, .int .i64 n, .int .i64 m] w fun e w' => e = .returned (.bool true) ∧ Below w.heap.size w w' := by
  have fa := mkN_fits a 20 (by omega)
  have fb := mkN_fits b 20 (by omega)
  have la : (mkN a 20).length ≤ 21 := by have := nsL_len a 20; simp [mkN]; omega
  have lb : (mkN b 20).length ≤ 21 := by have := nsL_len b 20; simp [mkN]; omega
  have MA : Hid (∀ W, BytesAt W va a → Laid W → Calls Tryd.prog 22 #[va, .int .i64 20] W fun e w' => e = .returned (.string ⟨(joinL (mkN a 20)).toArray⟩) ∧ Below W.heap.size W w') := Lib.hid fun W h k => lmade_any va a 20 (by omega) (by omega) W h k
  have MB : Hid (∀ W, BytesAt W vb b → Laid W → Calls Tryd.prog 22 #[vb, .int .i64 20] W fun e w' => e = .returned (.string ⟨(joinL (mkN b 20)).toArray⟩) ∧ Below W.heap.size W w') := Lib.hid fun W h k => lmade_any vb b 20 (by omega) (by omega) W h k
  have CA := child_mk fa (by omega) n
  have CB := child_mk fb (by omega) m
  have hs := joinL_le fa
  have ht := joinL_le fb
  by_cases hn : 0 ≤ n ∧ n ≤ 999
  · rw [if_pos hn] at CA
    have fx := fits_child fa (by omega) hn
    have hx := joinL_le fx
    have hpx : mkN a 20 <+: mkN a 20 ++ [n] := ⟨[n], rfl⟩
    have hne : mkN a 20 ≠ mkN a 20 ++ [n] := fun e => by have := congrArg List.length e; simp at this
    have U1 := (underS_mk fa fx).2 hpx
    have U2 : underS (⟨(joinL (mkN a 20 ++ [n])).toArray⟩ : ByteArray).data.toList (⟨(joinL (mkN a 20)).toArray⟩ : ByteArray).data.toList = false := by
      rw [Bool.eq_false_iff]
      intro h
      exact hne (prefix_antisymm hpx ((underS_mk fx fa).1 h))
    have O1 : orderS (⟨(joinL (mkN a 20)).toArray⟩ : ByteArray).data.toList (⟨(joinL (mkN a 20 ++ [n])).toArray⟩ : ByteArray).data.toList = -1 := by
      rw [orderS_mk fa fx]
      have := cmpL_prefix hpx hne
      rcases cmpL_range (mkN a 20) (mkN a 20 ++ [n]) with r | r | r <;> omega
    have R1 := readL_mk fx
    have R2 := readL_mk fa
    by_cases hm : 0 ≤ m ∧ m ≤ 999
    · rw [if_pos hm] at CB
      have fy := fits_child fb (by omega) hm
      by_cases hs2 : mkN a 20 = mkN b 20
      · rw [← hs2] at CB MB fy
        by_cases hnm : n = m
        · subst hnm
          exact nchild_eq va a vb b _ _ n w ia ib hw hs MA MB (Lib.hid CA) (Lib.hid CB) hn.1 hn.2 hx (Lib.hid U1) (Lib.hid U2) (Lib.hid O1) _ (by omega) (Lib.hid R1) (Lib.hid R2)
        · refine nchild_arg va a vb b _ _ _ n m w ia ib hw hs MA MB (Lib.hid CA) (Lib.hid CB) hn.1 hn.2 (beq_eq_false_iff_ne.2 fun e => hnm ?_) (beq_eq_false_iff_ne.2 hnm) hx (Lib.hid U1) (Lib.hid U2) (Lib.hid O1) _ (by omega) (Lib.hid R1) (Lib.hid R2)
          have := joinL_inj fx fy e
          simpa using this
      · refine nchild_name va a vb b _ _ _ _ n m w ia ib hw hs ht MA MB (Lib.hid CA) (Lib.hid CB) hn.1 hn.2 (beq_eq_false_iff_ne.2 fun e => hs2 ?_) (neS_mk fun e => hs2 (mk_inj fa fb e)).1 hx (Lib.hid U1) (Lib.hid U2) (Lib.hid O1) _ (by omega) (Lib.hid R1) (Lib.hid R2)
        have := joinL_inj fx fy e
        exact (List.append_inj' this rfl).1
    · rw [if_neg hm] at CB
      exact nchild_yn va a vb b _ _ _ n m w ia ib hw hs ht MA MB (Lib.hid CA) (Lib.hid CB) hn.1 hn.2 hx (Lib.hid U1) (Lib.hid U2) (Lib.hid O1) _ (by omega) (Lib.hid R1) (Lib.hid R2)
  · rw [if_neg hn] at CA
    by_cases hm : 0 ≤ m ∧ m ≤ 999
    · rw [if_pos hm] at CB
      by_cases h0 : n < 0
      · exact nchild_ly va a vb b _ _ _ n m w ia ib hw hs ht MA MB (Lib.hid CA) (Lib.hid CB) h0
      · exact nchild_hy va a vb b _ _ _ n m w ia ib hw hs ht MA MB (Lib.hid CA) (Lib.hid CB) (by omega) (by omega)
    · rw [if_neg hm] at CB
      by_cases h0 : n < 0
      · exact nchild_ln va a vb b _ _ n m w ia ib hw hs ht MA MB (Lib.hid CA) (Lib.hid CB) h0
      · exact nchild_hn va a vb b _ _ n m w ia ib hw hs ht MA MB (Lib.hid CA) (Lib.hid CB) (by omega) (by omega)
end Go.Proofs.YthgmogaiigkgfaaDoor
