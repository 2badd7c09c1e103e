/- What is put of two values that are right, one behind the other, is got as the same; they are put, and shown, alike just if they are the same. The walk: the law answers true; no memory that was there is turned. Conditions: a string has at most 140737488351232 bytes, the listed package variables hold what the program's text lays. -/
import Derived.Test.YtcgelcccboifjaaDoorWValTorn
namespace Go.Proofs.YtcgelcccboifjaaDoor
open Go.RowKit
theorem eql_value (k n k' n' : Int) (m s i m' s' i' : ByteArray) (b1 b2 b3 b4 b5 : Bool) (h1 : (k == k') = b1) (h2 : (n == n') = b2) (h3 : (m.toList == m'.toList) = b3) (h4 : (s.toList == s'.toList) = b4) (h5 : (i.toList == i'.toList) = b5) (W : World) :
    (binOp .eql 26 (.agg #[.int .i64 k, .int .i64 n, .string m, .string s, .string i]) (.agg #[.int .i64 k', .int .i64 n', .string m', .string s', .string i'])).run Tryd.prog W = .ok (.bool (b1 && b2 && b3 && b4 && b5)) W := by
  cases b1 <;> cases b2 <;> cases b3 <;> cases b4 <;> cases b5
  all_goals go_simp
theorem eql_value_self (k n : Int) (m s i : ByteArray) (W : World) :
    (binOp .eql 26 (.agg #[.int .i64 k, .int .i64 n, .string m, .string s, .string i]) (.agg #[.int .i64 k, .int .i64 n, .string m, .string s, .string i])).run Tryd.prog W = .ok (.bool true) W :=
  eql_value k n k n m s i m s i true true true true true (beq_self_eq_true _) (beq_self_eq_true _) (beq_self_eq_true _) (beq_self_eq_true _) (beq_self_eq_true _) W
def sameV (k n : Int) (m s i : ByteArray) (k' n' : Int) (m' s' i' : ByteArray) : Bool := (k == k') && (n == n') && (m.toList == m'.toList) && (s.toList == s'.toList) && (i.toList == i'.toList)
theorem sameV_iff (k n : Int) (m s i : ByteArray) (k' n' : Int) (m' s' i' : ByteArray) : sameV k n m s i k' n' m' s' i' = true ↔ vl k n m s i = vl k' n' m' s' i' := by
  unfold sameV vl lb
  simp only [Bool.and_eq_true, beq_iff_eq, ByteArray.toList_eq, Vl.mk.injEq, Lb.mk.injEq, and_assoc]
theorem beq_same {l l' : List UInt8} {b : Bool} (h : b = true ↔ l = l') : (l == l') = b := by
  cases b with
  | true => rw [h.1 rfl]; exact beq_self_eq_true _
  | false => rw [beq_eq_false_iff_ne]; intro e; exact absurd (h.2 e) (by decide)
set_option maxRecDepth 100000 in
set_option maxHeartbeats 2000000 in
theorem back_a (k n : Int) (m s i : ByteArray) (k' n' : Int) (m' s' i' S8 I8 S8' I8' : ByteArray) (ahead behind : ByteArray) (w : World) (hw : LaidV w)
    (hf : ∀ w, Calls Tryd.prog 9 #[.agg #[.int .i64 k, .int .i64 n, .string m, .string s, .string i]] w fun e w' => e = .returned (.agg #[.int .i64 k, .int .i64 n, .string m, .string S8, .string I8]) ∧ Below w.heap.size w w')
    (hf' : ∀ w, Calls Tryd.prog 9 #[.agg #[.int .i64 k', .int .i64 n', .string m', .string s', .string i']] w fun e w' => e = .returned (.agg #[.int .i64 k', .int .i64 n', .string m', .string S8', .string I8']) ∧ Below w.heap.size w w')
    (hr : ∀ w, LaidV w → Calls Tryd.prog 10 #[.agg #[.int .i64 k, .int .i64 n, .string m, .string S8, .string I8]] w fun e w' => e = .returned (.bool false) ∧ Below w.heap.size w w')
    (hp : ∀ w, LaidV w → Calls Tryd.prog 11 #[.agg #[.int .i64 k, .int .i64 n, .string m, .string S8, .string I8]] w fun e w' => e = .returned (.string ⟨#[]⟩) ∧ Below w.heap.size w w')
    (ht : ∀ w, LaidV w → Calls Tryd.prog 12 #[.agg #[.int .i64 k, .int .i64 n, .string m, .string S8, .string I8]] w fun e w' => e = .returned (.string ⟨#[63]⟩) ∧ Below w.heap.size w w') :
    Calls Tryd.prog 3 #[.agg #[.int .i64 k, .int .i64 n, .string m, .string s, .string i], .agg #[.int .i64 k', .int .i64 n', .string m', .string s', .string i'], .string ahead, .string behind] w fun e w' => e = .returned (.bool true) ∧ Below w.heap.size w w' := by
  go_enter Tryd.func3, Tryd.ntmps3
  have hB0 := Below.refl w.heap.size w
  have M0 := Mem.nil w
  have hw0 := hw
  go_wp2_with fail
  refine Calls.named ?_
  intro W1 hW1
  have hB1_ : Below w.heap.size w W1 := by rw [hW1]; exact (below_al (below_al hB0 _) _)
  have hw1_ : LaidV W1 := by rw [hW1]; exact ((hw.alloc _).alloc _)
  have M1_ := ((M0).new' (w.heap.size) (by rfl) (.cells #[.int .i64 k, .int .i64 n, .string m, .string s, .string i] 26)).new' (w.heap.size + 1) (by simp) (.cells #[.int .i64 k', .int .i64 n', .string m', .string s', .string i'] 26)
  rw [← hW1] at M1_
  clear hW1
  have ZZ1_0 := Lib.hid (Mem.lt M1_.1)
  have ZZ1_1 := Lib.hid (Mem.lt M1_.2.1)
  refine (vexamples_any _ hw1_).mono ?_
  rintro e w1 ⟨rfl, hb1⟩
  have hB1 := below_then hB1_ hb1
  have hw1 := hw1_.below hb1
  have M1 := M1_.below hb1
  clear M1_ hB1_ hb1 hw1_
  have c1_0_0 := Mem.cell (v := .int .i64 k') M1.1 0 rfl
  have c1_0_1 := Mem.cell (v := .int .i64 n') M1.1 1 rfl
  have c1_0_2 := Mem.cell (v := .string m') M1.1 2 rfl
  have c1_0_3 := Mem.cell (v := .string s') M1.1 3 rfl
  have c1_0_4 := Mem.cell (v := .string i') M1.1 4 rfl
  have z1_0 := Mem.lt M1.1
  have c1_1_0 := Mem.cell (v := .int .i64 k) M1.2.1 0 rfl
  have c1_1_1 := Mem.cell (v := .int .i64 n) M1.2.1 1 rfl
  have c1_1_2 := Mem.cell (v := .string m) M1.2.1 2 rfl
  have c1_1_3 := Mem.cell (v := .string s) M1.2.1 3 rfl
  have c1_1_4 := Mem.cell (v := .string i) M1.2.1 4 rfl
  have z1_1 := Mem.lt M1.2.1
  go_wp2_with fail
  refine Calls.named ?_
  intro W2 hW2
  have hB2_ : Below w.heap.size w W2 := by rw [hW2]; exact hB1
  have hw2_ : LaidV W2 := by rw [hW2]; exact hw1
  have M2_ := M1
  rw [← hW2] at M2_
  clear hW2
  have ZZ2_0 := Lib.hid (Mem.lt M2_.1)
  have ZZ2_1 := Lib.hid (Mem.lt M2_.2.1)
  clear c1_0_0 c1_0_1 c1_0_2 c1_0_3 c1_0_4 z1_0 c1_1_0 c1_1_1 c1_1_2 c1_1_3 c1_1_4 z1_1
  refine (hf _).mono ?_
  rintro e w2 ⟨rfl, hb2⟩
  have hB2 := below_then hB2_ hb2
  have hw2 := hw2_.below hb2
  have M2 := M2_.below hb2
  clear M2_ hB2_ hb2 hw2_
  have c2_0_0 := Mem.cell (v := .int .i64 k') M2.1 0 rfl
  have c2_0_1 := Mem.cell (v := .int .i64 n') M2.1 1 rfl
  have c2_0_2 := Mem.cell (v := .string m') M2.1 2 rfl
  have c2_0_3 := Mem.cell (v := .string s') M2.1 3 rfl
  have c2_0_4 := Mem.cell (v := .string i') M2.1 4 rfl
  have z2_0 := Mem.lt M2.1
  have c2_1_0 := Mem.cell (v := .int .i64 k) M2.2.1 0 rfl
  have c2_1_1 := Mem.cell (v := .int .i64 n) M2.2.1 1 rfl
  have c2_1_2 := Mem.cell (v := .string m) M2.2.1 2 rfl
  have c2_1_3 := Mem.cell (v := .string s) M2.2.1 3 rfl
  have c2_1_4 := Mem.cell (v := .string i) M2.2.1 4 rfl
  have z2_1 := Mem.lt M2.2.1
  have f2 := fun j => Mem.free M2.2.1 j
  go_upto_region 5 with (fail)
  have hX2 : (w2.setCells (w.heap.size) 0 [.int .i64 k, .int .i64 n, .string m, .string S8, .string I8]).heap[w.heap.size]? = some (.cells #[.int .i64 k, .int .i64 n, .string m, .string S8, .string I8] 26) := by rw [setCells_block [.int .i64 k, .int .i64 n, .string m, .string S8, .string I8] 0 _ _ (M2).2.1 (by simp)]; rfl
  have hY2 := below_setCells (B := w.heap.size) hB2 (b := w.heap.size) (by have := hB2.size; omega) 0 [.int .i64 k, .int .i64 n, .string m, .string S8, .string I8]
  refine wp_named ?_
  intro w3 hW3
  have hB3 : Below w.heap.size w w3 := by rw [hW3]; exact hY2
  have hw3 : LaidV w3 := hw0.below hB3
  have M3 : Mem w3 [(w.heap.size + 1, .cells #[.int .i64 k', .int .i64 n', .string m', .string s', .string i'] 26), (w.heap.size, .cells #[.int .i64 k, .int .i64 n, .string m, .string S8, .string I8] 26)] := by rw [hW3]; exact ⟨(setCells_other [.int .i64 k, .int .i64 n, .string m, .string S8, .string I8] 0 _ _ (by omega)).trans (M2).1, hX2, trivial⟩
  clear c2_0_0 c2_0_1 c2_0_2 c2_0_3 c2_0_4 z2_0 c2_1_0 c2_1_1 c2_1_2 c2_1_3 c2_1_4 z2_1
  clear hW3 hX2 hY2
  have c3_0_0 := Mem.cell (v := .int .i64 k') M3.1 0 rfl
  have c3_0_1 := Mem.cell (v := .int .i64 n') M3.1 1 rfl
  have c3_0_2 := Mem.cell (v := .string m') M3.1 2 rfl
  have c3_0_3 := Mem.cell (v := .string s') M3.1 3 rfl
  have c3_0_4 := Mem.cell (v := .string i') M3.1 4 rfl
  have z3_0 := Mem.lt M3.1
  have c3_1_0 := Mem.cell (v := .int .i64 k) M3.2.1 0 rfl
  have c3_1_1 := Mem.cell (v := .int .i64 n) M3.2.1 1 rfl
  have c3_1_2 := Mem.cell (v := .string m) M3.2.1 2 rfl
  have c3_1_3 := Mem.cell (v := .string S8) M3.2.1 3 rfl
  have c3_1_4 := Mem.cell (v := .string I8) M3.2.1 4 rfl
  have z3_1 := Mem.lt M3.2.1
  go_wp2_with fail
  refine Calls.named ?_
  intro W4 hW4
  have hB4_ : Below w.heap.size w W4 := by rw [hW4]; exact hB3
  have hw4_ : LaidV W4 := by rw [hW4]; exact hw3
  have M4_ := M3
  rw [← hW4] at M4_
  clear hW4
  have ZZ4_0 := Lib.hid (Mem.lt M4_.1)
  have ZZ4_1 := Lib.hid (Mem.lt M4_.2.1)
  clear c3_0_0 c3_0_1 c3_0_2 c3_0_3 c3_0_4 z3_0 c3_1_0 c3_1_1 c3_1_2 c3_1_3 c3_1_4 z3_1
  refine (hf' _).mono ?_
  rintro e w4 ⟨rfl, hb4⟩
  have hB4 := below_then hB4_ hb4
  have hw4 := hw4_.below hb4
  have M4 := M4_.below hb4
  clear M4_ hB4_ hb4 hw4_
  have c4_0_0 := Mem.cell (v := .int .i64 k') M4.1 0 rfl
  have c4_0_1 := Mem.cell (v := .int .i64 n') M4.1 1 rfl
  have c4_0_2 := Mem.cell (v := .string m') M4.1 2 rfl
  have c4_0_3 := Mem.cell (v := .string s') M4.1 3 rfl
  have c4_0_4 := Mem.cell (v := .string i') M4.1 4 rfl
  have z4_0 := Mem.lt M4.1
  have c4_1_0 := Mem.cell (v := .int .i64 k) M4.2.1 0 rfl
  have c4_1_1 := Mem.cell (v := .int .i64 n) M4.2.1 1 rfl
  have c4_1_2 := Mem.cell (v := .string m) M4.2.1 2 rfl
  have c4_1_3 := Mem.cell (v := .string S8) M4.2.1 3 rfl
  have c4_1_4 := Mem.cell (v := .string I8) M4.2.1 4 rfl
  have z4_1 := Mem.lt M4.2.1
  have f4 := fun j => Mem.free M4.1 j
  go_upto_region 6 with (fail)
  have hX4 : (w4.setCells (w.heap.size + 1) 0 [.int .i64 k', .int .i64 n', .string m', .string S8', .string I8']).heap[w.heap.size + 1]? = some (.cells #[.int .i64 k', .int .i64 n', .string m', .string S8', .string I8'] 26) := by rw [setCells_block [.int .i64 k', .int .i64 n', .string m', .string S8', .string I8'] 0 _ _ (M4).1 (by simp)]; rfl
  have hY4 := below_setCells (B := w.heap.size) hB4 (b := w.heap.size + 1) (by have := hB4.size; omega) 0 [.int .i64 k', .int .i64 n', .string m', .string S8', .string I8']
  refine wp_named ?_
  intro w5 hW5
  have hB5 : Below w.heap.size w w5 := by rw [hW5]; exact hY4
  have hw5 : LaidV w5 := hw0.below hB5
  have M5 : Mem w5 [(w.heap.size + 1, .cells #[.int .i64 k', .int .i64 n', .string m', .string S8', .string I8'] 26), (w.heap.size, .cells #[.int .i64 k, .int .i64 n, .string m, .string S8, .string I8] 26)] := by rw [hW5]; exact ⟨hX4, (setCells_other [.int .i64 k', .int .i64 n', .string m', .string S8', .string I8'] 0 _ _ (by omega)).trans (M4).2.1, trivial⟩
  clear c4_0_0 c4_0_1 c4_0_2 c4_0_3 c4_0_4 z4_0 c4_1_0 c4_1_1 c4_1_2 c4_1_3 c4_1_4 z4_1
  clear hW5 hX4 hY4
  have c5_0_0 := Mem.cell (v := .int .i64 k') M5.1 0 rfl
  have c5_0_1 := Mem.cell (v := .int .i64 n') M5.1 1 rfl
  have c5_0_2 := Mem.cell (v := .string m') M5.1 2 rfl
  have c5_0_3 := Mem.cell (v := .string S8') M5.1 3 rfl
  have c5_0_4 := Mem.cell (v := .string I8') M5.1 4 rfl
  have z5_0 := Mem.lt M5.1
  have c5_1_0 := Mem.cell (v := .int .i64 k) M5.2.1 0 rfl
  have c5_1_1 := Mem.cell (v := .int .i64 n) M5.2.1 1 rfl
  have c5_1_2 := Mem.cell (v := .string m) M5.2.1 2 rfl
  have c5_1_3 := Mem.cell (v := .string S8) M5.2.1 3 rfl
  have c5_1_4 := Mem.cell (v := .string I8) M5.2.1 4 rfl
  have z5_1 := Mem.lt M5.2.1
  go_wp2_with fail
  refine Calls.named ?_
  intro W6 hW6
  have hB6_ : Below w.heap.size w W6 := by rw [hW6]; exact hB5
  have hw6_ : LaidV W6 := by rw [hW6]; exact hw5
  have M6_ := M5
  rw [← hW6] at M6_
  clear hW6
  have ZZ6_0 := Lib.hid (Mem.lt M6_.1)
  have ZZ6_1 := Lib.hid (Mem.lt M6_.2.1)
  clear c5_0_0 c5_0_1 c5_0_2 c5_0_3 c5_0_4 z5_0 c5_1_0 c5_1_1 c5_1_2 c5_1_3 c5_1_4 z5_1
  refine (hr _ hw6_).mono ?_
  rintro e w6 ⟨rfl, hb6⟩
  have hB6 := below_then hB6_ hb6
  have hw6 := hw6_.below hb6
  have M6 := M6_.below hb6
  clear M6_ hB6_ hb6 hw6_
  have c6_0_0 := Mem.cell (v := .int .i64 k') M6.1 0 rfl
  have c6_0_1 := Mem.cell (v := .int .i64 n') M6.1 1 rfl
  have c6_0_2 := Mem.cell (v := .string m') M6.1 2 rfl
  have c6_0_3 := Mem.cell (v := .string S8') M6.1 3 rfl
  have c6_0_4 := Mem.cell (v := .string I8') M6.1 4 rfl
  have z6_0 := Mem.lt M6.1
  have c6_1_0 := Mem.cell (v := .int .i64 k) M6.2.1 0 rfl
  have c6_1_1 := Mem.cell (v := .int .i64 n) M6.2.1 1 rfl
  have c6_1_2 := Mem.cell (v := .string m) M6.2.1 2 rfl
  have c6_1_3 := Mem.cell (v := .string S8) M6.2.1 3 rfl
  have c6_1_4 := Mem.cell (v := .string I8) M6.2.1 4 rfl
  have z6_1 := Mem.lt M6.2.1
  go_wp2_with fail
  refine Calls.named ?_
  intro W7 hW7
  have hB7_ : Below w.heap.size w W7 := by rw [hW7]; exact hB6
  have hw7_ : LaidV W7 := by rw [hW7]; exact hw6
  have M7_ := M6
  rw [← hW7] at M7_
  clear hW7
  have ZZ7_0 := Lib.hid (Mem.lt M7_.1)
  have ZZ7_1 := Lib.hid (Mem.lt M7_.2.1)
  clear c6_0_0 c6_0_1 c6_0_2 c6_0_3 c6_0_4 z6_0 c6_1_0 c6_1_1 c6_1_2 c6_1_3 c6_1_4 z6_1
  refine (hr _ hw7_).mono ?_
  rintro e w7 ⟨rfl, hb7⟩
  have hB7 := below_then hB7_ hb7
  have hw7 := hw7_.below hb7
  have M7 := M7_.below hb7
  clear M7_ hB7_ hb7 hw7_
  have c7_0_0 := Mem.cell (v := .int .i64 k') M7.1 0 rfl
  have c7_0_1 := Mem.cell (v := .int .i64 n') M7.1 1 rfl
  have c7_0_2 := Mem.cell (v := .string m') M7.1 2 rfl
  have c7_0_3 := Mem.cell (v := .string S8') M7.1 3 rfl
  have c7_0_4 := Mem.cell (v := .string I8') M7.1 4 rfl
  have z7_0 := Mem.lt M7.1
  have c7_1_0 := Mem.cell (v := .int .i64 k) M7.2.1 0 rfl
  have c7_1_1 := Mem.cell (v := .int .i64 n) M7.2.1 1 rfl
  have c7_1_2 := Mem.cell (v := .string m) M7.2.1 2 rfl
  have c7_1_3 := Mem.cell (v := .string S8) M7.2.1 3 rfl
  have c7_1_4 := Mem.cell (v := .string I8) M7.2.1 4 rfl
  have z7_1 := Mem.lt M7.2.1
  go_wp2_with fail
  refine Calls.named ?_
  intro W8 hW8
  have hB8_ : Below w.heap.size w W8 := by rw [hW8]; exact hB7
  have hw8_ : LaidV W8 := by rw [hW8]; exact hw7
  have M8_ := M7
  rw [← hW8] at M8_
  clear hW8
  have ZZ8_0 := Lib.hid (Mem.lt M8_.1)
  have ZZ8_1 := Lib.hid (Mem.lt M8_.2.1)
  clear c7_0_0 c7_0_1 c7_0_2 c7_0_3 c7_0_4 z7_0 c7_1_0 c7_1_1 c7_1_2 c7_1_3 c7_1_4 z7_1
  refine (hp _ hw8_).mono ?_
  rintro e w8 ⟨rfl, hb8⟩
  have hB8 := below_then hB8_ hb8
  have hw8 := hw8_.below hb8
  have M8 := M8_.below hb8
  clear M8_ hB8_ hb8 hw8_
  have c8_0_0 := Mem.cell (v := .int .i64 k') M8.1 0 rfl
  have c8_0_1 := Mem.cell (v := .int .i64 n') M8.1 1 rfl
  have c8_0_2 := Mem.cell (v := .string m') M8.1 2 rfl
  have c8_0_3 := Mem.cell (v := .string S8') M8.1 3 rfl
  have c8_0_4 := Mem.cell (v := .string I8') M8.1 4 rfl
  have z8_0 := Mem.lt M8.1
  have c8_1_0 := Mem.cell (v := .int .i64 k) M8.2.1 0 rfl
  have c8_1_1 := Mem.cell (v := .int .i64 n) M8.2.1 1 rfl
  have c8_1_2 := Mem.cell (v := .string m) M8.2.1 2 rfl
  have c8_1_3 := Mem.cell (v := .string S8) M8.2.1 3 rfl
  have c8_1_4 := Mem.cell (v := .string I8) M8.2.1 4 rfl
  have z8_1 := Mem.lt M8.2.1
  go_wp2_with fail
  refine Calls.named ?_
  intro W9 hW9
  have hB9_ : Below w.heap.size w W9 := by rw [hW9]; exact hB8
  have hw9_ : LaidV W9 := by rw [hW9]; exact hw8
  have M9_ := M8
  rw [← hW9] at M9_
  clear hW9
  have ZZ9_0 := Lib.hid (Mem.lt M9_.1)
  have ZZ9_1 := Lib.hid (Mem.lt M9_.2.1)
  clear c8_0_0 c8_0_1 c8_0_2 c8_0_3 c8_0_4 z8_0 c8_1_0 c8_1_1 c8_1_2 c8_1_3 c8_1_4 z8_1
  refine (ht _ hw9_).mono ?_
  rintro e w9 ⟨rfl, hb9⟩
  have hB9 := below_then hB9_ hb9
  have hw9 := hw9_.below hb9
  have M9 := M9_.below hb9
  clear M9_ hB9_ hb9 hw9_
  have c9_0_0 := Mem.cell (v := .int .i64 k') M9.1 0 rfl
  have c9_0_1 := Mem.cell (v := .int .i64 n') M9.1 1 rfl
  have c9_0_2 := Mem.cell (v := .string m') M9.1 2 rfl
  have c9_0_3 := Mem.cell (v := .string S8') M9.1 3 rfl
  have c9_0_4 := Mem.cell (v := .string I8') M9.1 4 rfl
  have z9_0 := Mem.lt M9.1
  have c9_1_0 := Mem.cell (v := .int .i64 k) M9.2.1 0 rfl
  have c9_1_1 := Mem.cell (v := .int .i64 n) M9.2.1 1 rfl
  have c9_1_2 := Mem.cell (v := .string m) M9.2.1 2 rfl
  have c9_1_3 := Mem.cell (v := .string S8) M9.2.1 3 rfl
  have c9_1_4 := Mem.cell (v := .string I8) M9.2.1 4 rfl
  have z9_1 := Mem.lt M9.2.1
  go_wp2_with fail
  go_ret
  exact ⟨rfl, hB9⟩
set_option maxRecDepth 100000 in
set_option maxHeartbeats 2000000 in
theorem back_b (k n : Int) (m s i : ByteArray) (k' n' : Int) (m' s' i' S8 I8 S8' I8' : ByteArray) (ahead behind : ByteArray) (w : World) (hw : LaidV w)
    (hf : ∀ w, Calls Tryd.prog 9 #[.agg #[.int .i64 k, .int .i64 n, .string m, .string s, .string i]] w fun e w' => e = .returned (.agg #[.int .i64 k, .int .i64 n, .string m, .string S8, .string I8]) ∧ Below w.heap.size w w')
    (hf' : ∀ w, Calls Tryd.prog 9 #[.agg #[.int .i64 k', .int .i64 n', .string m', .string s', .string i']] w fun e w' => e = .returned (.agg #[.int .i64 k', .int .i64 n', .string m', .string S8', .string I8']) ∧ Below w.heap.size w w')
    (hr : ∀ w, LaidV w → Calls Tryd.prog 10 #[.agg #[.int .i64 k, .int .i64 n, .string m, .string S8, .string I8]] w fun e w' => e = .returned (.bool true) ∧ Below w.heap.size w w')
    (hr' : ∀ w, LaidV w → Calls Tryd.prog 10 #[.agg #[.int .i64 k', .int .i64 n', .string m', .string S8', .string I8']] w fun e w' => e = .returned (.bool false) ∧ Below w.heap.size w w') :
    Calls Tryd.prog 3 #[.agg #[.int .i64 k, .int .i64 n, .string m, .string s, .string i], .agg #[.int .i64 k', .int .i64 n', .string m', .string s', .string i'], .string ahead, .string behind] w fun e w' => e = .returned (.bool true) ∧ Below w.heap.size w w' := by
  go_enter Tryd.func3, Tryd.ntmps3
  have hB0 := Below.refl w.heap.size w
  have M0 := Mem.nil w
  have hw0 := hw
  go_wp2_with fail
  refine Calls.named ?_
  intro W1 hW1
  have hB1_ : Below w.heap.size w W1 := by rw [hW1]; exact (below_al (below_al hB0 _) _)
  have hw1_ : LaidV W1 := by rw [hW1]; exact ((hw.alloc _).alloc _)
  have M1_ := ((M0).new' (w.heap.size) (by rfl) (.cells #[.int .i64 k, .int .i64 n, .string m, .string s, .string i] 26)).new' (w.heap.size + 1) (by simp) (.cells #[.int .i64 k', .int .i64 n', .string m', .string s', .string i'] 26)
  rw [← hW1] at M1_
  clear hW1
  have ZZ1_0 := Lib.hid (Mem.lt M1_.1)
  have ZZ1_1 := Lib.hid (Mem.lt M1_.2.1)
  refine (vexamples_any _ hw1_).mono ?_
  rintro e w1 ⟨rfl, hb1⟩
  have hB1 := below_then hB1_ hb1
  have hw1 := hw1_.below hb1
  have M1 := M1_.below hb1
  clear M1_ hB1_ hb1 hw1_
  have c1_0_0 := Mem.cell (v := .int .i64 k') M1.1 0 rfl
  have c1_0_1 := Mem.cell (v := .int .i64 n') M1.1 1 rfl
  have c1_0_2 := Mem.cell (v := .string m') M1.1 2 rfl
  have c1_0_3 := Mem.cell (v := .string s') M1.1 3 rfl
  have c1_0_4 := Mem.cell (v := .string i') M1.1 4 rfl
  have z1_0 := Mem.lt M1.1
  have c1_1_0 := Mem.cell (v := .int .i64 k) M1.2.1 0 rfl
  have c1_1_1 := Mem.cell (v := .int .i64 n) M1.2.1 1 rfl
  have c1_1_2 := Mem.cell (v := .string m) M1.2.1 2 rfl
  have c1_1_3 := Mem.cell (v := .string s) M1.2.1 3 rfl
  have c1_1_4 := Mem.cell (v := .string i) M1.2.1 4 rfl
  have z1_1 := Mem.lt M1.2.1
  go_wp2_with fail
  refine Calls.named ?_
  intro W2 hW2
  have hB2_ : Below w.heap.size w W2 := by rw [hW2]; exact hB1
  have hw2_ : LaidV W2 := by rw [hW2]; exact hw1
  have M2_ := M1
  rw [← hW2] at M2_
  clear hW2
  have ZZ2_0 := Lib.hid (Mem.lt M2_.1)
  have ZZ2_1 := Lib.hid (Mem.lt M2_.2.1)
  clear c1_0_0 c1_0_1 c1_0_2 c1_0_3 c1_0_4 z1_0 c1_1_0 c1_1_1 c1_1_2 c1_1_3 c1_1_4 z1_1
  refine (hf _).mono ?_
  rintro e w2 ⟨rfl, hb2⟩
  have hB2 := below_then hB2_ hb2
  have hw2 := hw2_.below hb2
  have M2 := M2_.below hb2
  clear M2_ hB2_ hb2 hw2_
  have c2_0_0 := Mem.cell (v := .int .i64 k') M2.1 0 rfl
  have c2_0_1 := Mem.cell (v := .int .i64 n') M2.1 1 rfl
  have c2_0_2 := Mem.cell (v := .string m') M2.1 2 rfl
  have c2_0_3 := Mem.cell (v := .string s') M2.1 3 rfl
  have c2_0_4 := Mem.cell (v := .string i') M2.1 4 rfl
  have z2_0 := Mem.lt M2.1
  have c2_1_0 := Mem.cell (v := .int .i64 k) M2.2.1 0 rfl
  have c2_1_1 := Mem.cell (v := .int .i64 n) M2.2.1 1 rfl
  have c2_1_2 := Mem.cell (v := .string m) M2.2.1 2 rfl
  have c2_1_3 := Mem.cell (v := .string s) M2.2.1 3 rfl
  have c2_1_4 := Mem.cell (v := .string i) M2.2.1 4 rfl
  have z2_1 := Mem.lt M2.2.1
  have f2 := fun j => Mem.free M2.2.1 j
  go_upto_region 5 with (fail)
  have hX2 : (w2.setCells (w.heap.size) 0 [.int .i64 k, .int .i64 n, .string m, .string S8, .string I8]).heap[w.heap.size]? = some (.cells #[.int .i64 k, .int .i64 n, .string m, .string S8, .string I8] 26) := by rw [setCells_block [.int .i64 k, .int .i64 n, .string m, .string S8, .string I8] 0 _ _ (M2).2.1 (by simp)]; rfl
  have hY2 := below_setCells (B := w.heap.size) hB2 (b := w.heap.size) (by have := hB2.size; omega) 0 [.int .i64 k, .int .i64 n, .string m, .string S8, .string I8]
  refine wp_named ?_
  intro w3 hW3
  have hB3 : Below w.heap.size w w3 := by rw [hW3]; exact hY2
  have hw3 : LaidV w3 := hw0.below hB3
  have M3 : Mem w3 [(w.heap.size + 1, .cells #[.int .i64 k', .int .i64 n', .string m', .string s', .string i'] 26), (w.heap.size, .cells #[.int .i64 k, .int .i64 n, .string m, .string S8, .string I8] 26)] := by rw [hW3]; exact ⟨(setCells_other [.int .i64 k, .int .i64 n, .string m, .string S8, .string I8] 0 _ _ (by omega)).trans (M2).1, hX2, trivial⟩
  clear c2_0_0 c2_0_1 c2_0_2 c2_0_3 c2_0_4 z2_0 c2_1_0 c2_1_1 c2_1_2 c2_1_3 c2_1_4 z2_1
  clear hW3 hX2 hY2
  have c3_0_0 := Mem.cell (v := .int .i64 k') M3.1 0 rfl
  have c3_0_1 := Mem.cell (v := .int .i64 n') M3.1 1 rfl
  have c3_0_2 := Mem.cell (v := .string m') M3.1 2 rfl
  have c3_0_3 := Mem.cell (v := .string s') M3.1 3 rfl
  have c3_0_4 := Mem.cell (v := .string i') M3.1 4 rfl
  have z3_0 := Mem.lt M3.1
  have c3_1_0 := Mem.cell (v := .int .i64 k) M3.2.1 0 rfl
  have c3_1_1 := Mem.cell (v := .int .i64 n) M3.2.1 1 rfl
  have c3_1_2 := Mem.cell (v := .string m) M3.2.1 2 rfl
  have c3_1_3 := Mem.cell (v := .string S8) M3.2.1 3 rfl
  have c3_1_4 := Mem.cell (v := .string I8) M3.2.1 4 rfl
  have z3_1 := Mem.lt M3.2.1
  go_wp2_with fail
  refine Calls.named ?_
  intro W4 hW4
  have hB4_ : Below w.heap.size w W4 := by rw [hW4]; exact hB3
  have hw4_ : LaidV W4 := by rw [hW4]; exact hw3
  have M4_ := M3
  rw [← hW4] at M4_
  clear hW4
  have ZZ4_0 := Lib.hid (Mem.lt M4_.1)
  have ZZ4_1 := Lib.hid (Mem.lt M4_.2.1)
  clear c3_0_0 c3_0_1 c3_0_2 c3_0_3 c3_0_4 z3_0 c3_1_0 c3_1_1 c3_1_2 c3_1_3 c3_1_4 z3_1
  refine (hf' _).mono ?_
  rintro e w4 ⟨rfl, hb4⟩
  have hB4 := below_then hB4_ hb4
  have hw4 := hw4_.below hb4
  have M4 := M4_.below hb4
  clear M4_ hB4_ hb4 hw4_
  have c4_0_0 := Mem.cell (v := .int .i64 k') M4.1 0 rfl
  have c4_0_1 := Mem.cell (v := .int .i64 n') M4.1 1 rfl
  have c4_0_2 := Mem.cell (v := .string m') M4.1 2 rfl
  have c4_0_3 := Mem.cell (v := .string s') M4.1 3 rfl
  have c4_0_4 := Mem.cell (v := .string i') M4.1 4 rfl
  have z4_0 := Mem.lt M4.1
  have c4_1_0 := Mem.cell (v := .int .i64 k) M4.2.1 0 rfl
  have c4_1_1 := Mem.cell (v := .int .i64 n) M4.2.1 1 rfl
  have c4_1_2 := Mem.cell (v := .string m) M4.2.1 2 rfl
  have c4_1_3 := Mem.cell (v := .string S8) M4.2.1 3 rfl
  have c4_1_4 := Mem.cell (v := .string I8) M4.2.1 4 rfl
  have z4_1 := Mem.lt M4.2.1
  have f4 := fun j => Mem.free M4.1 j
  go_upto_region 6 with (fail)
  have hX4 : (w4.setCells (w.heap.size + 1) 0 [.int .i64 k', .int .i64 n', .string m', .string S8', .string I8']).heap[w.heap.size + 1]? = some (.cells #[.int .i64 k', .int .i64 n', .string m', .string S8', .string I8'] 26) := by rw [setCells_block [.int .i64 k', .int .i64 n', .string m', .string S8', .string I8'] 0 _ _ (M4).1 (by simp)]; rfl
  have hY4 := below_setCells (B := w.heap.size) hB4 (b := w.heap.size + 1) (by have := hB4.size; omega) 0 [.int .i64 k', .int .i64 n', .string m', .string S8', .string I8']
  refine wp_named ?_
  intro w5 hW5
  have hB5 : Below w.heap.size w w5 := by rw [hW5]; exact hY4
  have hw5 : LaidV w5 := hw0.below hB5
  have M5 : Mem w5 [(w.heap.size + 1, .cells #[.int .i64 k', .int .i64 n', .string m', .string S8', .string I8'] 26), (w.heap.size, .cells #[.int .i64 k, .int .i64 n, .string m, .string S8, .string I8] 26)] := by rw [hW5]; exact ⟨hX4, (setCells_other [.int .i64 k', .int .i64 n', .string m', .string S8', .string I8'] 0 _ _ (by omega)).trans (M4).2.1, trivial⟩
  clear c4_0_0 c4_0_1 c4_0_2 c4_0_3 c4_0_4 z4_0 c4_1_0 c4_1_1 c4_1_2 c4_1_3 c4_1_4 z4_1
  clear hW5 hX4 hY4
  have c5_0_0 := Mem.cell (v := .int .i64 k') M5.1 0 rfl
  have c5_0_1 := Mem.cell (v := .int .i64 n') M5.1 1 rfl
  have c5_0_2 := Mem.cell (v := .string m') M5.1 2 rfl
  have c5_0_3 := Mem.cell (v := .string S8') M5.1 3 rfl
  have c5_0_4 := Mem.cell (v := .string I8') M5.1 4 rfl
  have z5_0 := Mem.lt M5.1
  have c5_1_0 := Mem.cell (v := .int .i64 k) M5.2.1 0 rfl
  have c5_1_1 := Mem.cell (v := .int .i64 n) M5.2.1 1 rfl
  have c5_1_2 := Mem.cell (v := .string m) M5.2.1 2 rfl
  have c5_1_3 := Mem.cell (v := .string S8) M5.2.1 3 rfl
  have c5_1_4 := Mem.cell (v := .string I8) M5.2.1 4 rfl
  have z5_1 := Mem.lt M5.2.1
  go_wp2_with fail
  refine Calls.named ?_
  intro W6 hW6
  have hB6_ : Below w.heap.size w W6 := by rw [hW6]; exact hB5
  have hw6_ : LaidV W6 := by rw [hW6]; exact hw5
  have M6_ := M5
  rw [← hW6] at M6_
  clear hW6
  have ZZ6_0 := Lib.hid (Mem.lt M6_.1)
  have ZZ6_1 := Lib.hid (Mem.lt M6_.2.1)
  clear c5_0_0 c5_0_1 c5_0_2 c5_0_3 c5_0_4 z5_0 c5_1_0 c5_1_1 c5_1_2 c5_1_3 c5_1_4 z5_1
  refine (hr _ hw6_).mono ?_
  rintro e w6 ⟨rfl, hb6⟩
  have hB6 := below_then hB6_ hb6
  have hw6 := hw6_.below hb6
  have M6 := M6_.below hb6
  clear M6_ hB6_ hb6 hw6_
  have c6_0_0 := Mem.cell (v := .int .i64 k') M6.1 0 rfl
  have c6_0_1 := Mem.cell (v := .int .i64 n') M6.1 1 rfl
  have c6_0_2 := Mem.cell (v := .string m') M6.1 2 rfl
  have c6_0_3 := Mem.cell (v := .string S8') M6.1 3 rfl
  have c6_0_4 := Mem.cell (v := .string I8') M6.1 4 rfl
  have z6_0 := Mem.lt M6.1
  have c6_1_0 := Mem.cell (v := .int .i64 k) M6.2.1 0 rfl
  have c6_1_1 := Mem.cell (v := .int .i64 n) M6.2.1 1 rfl
  have c6_1_2 := Mem.cell (v := .string m) M6.2.1 2 rfl
  have c6_1_3 := Mem.cell (v := .string S8) M6.2.1 3 rfl
  have c6_1_4 := Mem.cell (v := .string I8) M6.2.1 4 rfl
  have z6_1 := Mem.lt M6.2.1
  go_wp2_with fail
  refine Calls.named ?_
  intro W7 hW7
  have hB7_ : Below w.heap.size w W7 := by rw [hW7]; exact hB6
  have hw7_ : LaidV W7 := by rw [hW7]; exact hw6
  have M7_ := M6
  rw [← hW7] at M7_
  clear hW7
  have ZZ7_0 := Lib.hid (Mem.lt M7_.1)
  have ZZ7_1 := Lib.hid (Mem.lt M7_.2.1)
  clear c6_0_0 c6_0_1 c6_0_2 c6_0_3 c6_0_4 z6_0 c6_1_0 c6_1_1 c6_1_2 c6_1_3 c6_1_4 z6_1
  refine (hr' _ hw7_).mono ?_
  rintro e w7 ⟨rfl, hb7⟩
  have hB7 := below_then hB7_ hb7
  have hw7 := hw7_.below hb7
  have M7 := M7_.below hb7
  clear M7_ hB7_ hb7 hw7_
  have c7_0_0 := Mem.cell (v := .int .i64 k') M7.1 0 rfl
  have c7_0_1 := Mem.cell (v := .int .i64 n') M7.1 1 rfl
  have c7_0_2 := Mem.cell (v := .string m') M7.1 2 rfl
  have c7_0_3 := Mem.cell (v := .string S8') M7.1 3 rfl
  have c7_0_4 := Mem.cell (v := .string I8') M7.1 4 rfl
  have z7_0 := Mem.lt M7.1
  have c7_1_0 := Mem.cell (v := .int .i64 k) M7.2.1 0 rfl
  have c7_1_1 := Mem.cell (v := .int .i64 n) M7.2.1 1 rfl
  have c7_1_2 := Mem.cell (v := .string m) M7.2.1 2 rfl
  have c7_1_3 := Mem.cell (v := .string S8) M7.2.1 3 rfl
  have c7_1_4 := Mem.cell (v := .string I8) M7.2.1 4 rfl
  have z7_1 := Mem.lt M7.2.1
  go_wp2_with fail
  refine Calls.named ?_
  intro W8 hW8
  have hB8_ : Below w.heap.size w W8 := by rw [hW8]; exact hB7
  have hw8_ : LaidV W8 := by rw [hW8]; exact hw7
  have M8_ := M7
  rw [← hW8] at M8_
  clear hW8
  have ZZ8_0 := Lib.hid (Mem.lt M8_.1)
  have ZZ8_1 := Lib.hid (Mem.lt M8_.2.1)
  clear c7_0_0 c7_0_1 c7_0_2 c7_0_3 c7_0_4 z7_0 c7_1_0 c7_1_1 c7_1_2 c7_1_3 c7_1_4 z7_1
  refine (hr _ hw8_).mono ?_
  rintro e w8 ⟨rfl, hb8⟩
  have hB8 := below_then hB8_ hb8
  have hw8 := hw8_.below hb8
  have M8 := M8_.below hb8
  clear M8_ hB8_ hb8 hw8_
  have c8_0_0 := Mem.cell (v := .int .i64 k') M8.1 0 rfl
  have c8_0_1 := Mem.cell (v := .int .i64 n') M8.1 1 rfl
  have c8_0_2 := Mem.cell (v := .string m') M8.1 2 rfl
  have c8_0_3 := Mem.cell (v := .string S8') M8.1 3 rfl
  have c8_0_4 := Mem.cell (v := .string I8') M8.1 4 rfl
  have z8_0 := Mem.lt M8.1
  have c8_1_0 := Mem.cell (v := .int .i64 k) M8.2.1 0 rfl
  have c8_1_1 := Mem.cell (v := .int .i64 n) M8.2.1 1 rfl
  have c8_1_2 := Mem.cell (v := .string m) M8.2.1 2 rfl
  have c8_1_3 := Mem.cell (v := .string S8) M8.2.1 3 rfl
  have c8_1_4 := Mem.cell (v := .string I8) M8.2.1 4 rfl
  have z8_1 := Mem.lt M8.2.1
  go_wp2_with fail
  go_ret
  exact ⟨rfl, hB8⟩
set_option maxRecDepth 100000 in
set_option maxHeartbeats 2000000 in
theorem back_c (k n : Int) (m s i : ByteArray) (k' n' : Int) (m' s' i' S8 I8 S8' I8' : ByteArray) (ahead behind PA PB TA TB S : ByteArray) (x y : Nat) (Q : Bool) (w : World) (hw : LaidV w)
    (hah : ahead.size ≤ 140737488351232) (hbe : behind.size ≤ 140737488351232) (hPA : PA.size ≤ 240) (hPB : PB.size ≤ 240) (hS : ((ahead ++ PA) ++ PB) ++ behind = S) (hy : y + behind.size = S.size) (hSs : S.size ≤ 1152921504606846976)
    (hQ1 : (PA.toList == PB.toList) = Q) (hQ2 : (TA.toList == TB.toList) = Q)
    (hQ3 : ∀ W, (binOp .eql 26 (.agg #[.int .i64 k, .int .i64 n, .string m, .string S8, .string I8]) (.agg #[.int .i64 k', .int .i64 n', .string m', .string S8', .string I8'])).run Tryd.prog W = .ok (.bool Q) W)
    (hf : ∀ w, Calls Tryd.prog 9 #[.agg #[.int .i64 k, .int .i64 n, .string m, .string s, .string i]] w fun e w' => e = .returned (.agg #[.int .i64 k, .int .i64 n, .string m, .string S8, .string I8]) ∧ Below w.heap.size w w')
    (hf' : ∀ w, Calls Tryd.prog 9 #[.agg #[.int .i64 k', .int .i64 n', .string m', .string s', .string i']] w fun e w' => e = .returned (.agg #[.int .i64 k', .int .i64 n', .string m', .string S8', .string I8']) ∧ Below w.heap.size w w')
    (hr : ∀ w, LaidV w → Calls Tryd.prog 10 #[.agg #[.int .i64 k, .int .i64 n, .string m, .string S8, .string I8]] w fun e w' => e = .returned (.bool true) ∧ Below w.heap.size w w')
    (hr' : ∀ w, LaidV w → Calls Tryd.prog 10 #[.agg #[.int .i64 k', .int .i64 n', .string m', .string S8', .string I8']] w fun e w' => e = .returned (.bool true) ∧ Below w.heap.size w w')
    (hp : ∀ w, LaidV w → Calls Tryd.prog 11 #[.agg #[.int .i64 k, .int .i64 n, .string m, .string S8, .string I8]] w fun e w' => e = .returned (.string PA) ∧ Below w.heap.size w w')
    (hp' : ∀ w, LaidV w → Calls Tryd.prog 11 #[.agg #[.int .i64 k', .int .i64 n', .string m', .string S8', .string I8']] w fun e w' => e = .returned (.string PB) ∧ Below w.heap.size w w')
    (ht : ∀ w, LaidV w → Calls Tryd.prog 12 #[.agg #[.int .i64 k, .int .i64 n, .string m, .string S8, .string I8]] w fun e w' => e = .returned (.string TA) ∧ Below w.heap.size w w')
    (ht' : ∀ w, LaidV w → Calls Tryd.prog 12 #[.agg #[.int .i64 k', .int .i64 n', .string m', .string S8', .string I8']] w fun e w' => e = .returned (.string TB) ∧ Below w.heap.size w w')
    (hg : ∀ w, LaidV w → Calls Tryd.prog 13 #[.string S, .int .i64 ahead.size] w fun e w' => e = .returned (.tuple #[.agg #[.int .i64 k, .int .i64 n, .string m, .string S8, .string I8], .int .i64 x, .bool true]) ∧ Below w.heap.size w w')
    (hg' : ∀ w, LaidV w → Calls Tryd.prog 13 #[.string S, .int .i64 x] w fun e w' => e = .returned (.tuple #[.agg #[.int .i64 k', .int .i64 n', .string m', .string S8', .string I8'], .int .i64 y, .bool true]) ∧ Below w.heap.size w w') :
    Calls Tryd.prog 3 #[.agg #[.int .i64 k, .int .i64 n, .string m, .string s, .string i], .agg #[.int .i64 k', .int .i64 n', .string m', .string s', .string i'], .string ahead, .string behind] w fun e w' => e = .returned (.bool true) ∧ Below w.heap.size w w' := by
  have HS := Lib.hid hS
  have hsub : IntKind.i64.wrap ((S.size : Int) - (behind.size : Int)) = (y : Int) := by
    have e : (S.size : Int) - (behind.size : Int) = (y : Int) := by omega
    rw [e]
    exact IntWalk.i64_in _ (by omega)
  have hsub2 : wrap64 ((S.size : Int) - (behind.size : Int)) = (y : Int) := by
    have e : (S.size : Int) - (behind.size : Int) = (y : Int) := by omega
    rw [e]
    first | exact IntWalk.i64_in _ (by omega) | (simp [wrap64]; omega)
  have hs1 : ¬ 9223372036854775807 < ahead.size + PA.size := by omega
  have hs2 : ¬ 9223372036854775807 < ahead.size + PA.size + PB.size := by omega
  have hs3 : ¬ 9223372036854775807 < ahead.size + PA.size + PB.size + behind.size := by omega
  have hself := eql_value_self k n m S8 I8
  have hself' := eql_value_self k' n' m' S8' I8'
  clear hS hy
  go_enter Tryd.func3, Tryd.ntmps3
  have hB0 := Below.refl w.heap.size w
  have M0 := Mem.nil w
  have hw0 := hw
  go_wp2_with fail
  refine Calls.named ?_
  intro W1 hW1
  have hB1_ : Below w.heap.size w W1 := by rw [hW1]; exact (below_al (below_al hB0 _) _)
  have hw1_ : LaidV W1 := by rw [hW1]; exact ((hw.alloc _).alloc _)
  have M1_ := ((M0).new' (w.heap.size) (by rfl) (.cells #[.int .i64 k, .int .i64 n, .string m, .string s, .string i] 26)).new' (w.heap.size + 1) (by simp) (.cells #[.int .i64 k', .int .i64 n', .string m', .string s', .string i'] 26)
  rw [← hW1] at M1_
  clear hW1
  have ZZ1_0 := Lib.hid (Mem.lt M1_.1)
  have ZZ1_1 := Lib.hid (Mem.lt M1_.2.1)
  refine (vexamples_any _ hw1_).mono ?_
  rintro e w1 ⟨rfl, hb1⟩
  have hB1 := below_then hB1_ hb1
  have hw1 := hw1_.below hb1
  have M1 := M1_.below hb1
  clear M1_ hB1_ hb1 hw1_
  have c1_0_0 := Mem.cell (v := .int .i64 k') M1.1 0 rfl
  have c1_0_1 := Mem.cell (v := .int .i64 n') M1.1 1 rfl
  have c1_0_2 := Mem.cell (v := .string m') M1.1 2 rfl
  have c1_0_3 := Mem.cell (v := .string s') M1.1 3 rfl
  have c1_0_4 := Mem.cell (v := .string i') M1.1 4 rfl
  have z1_0 := Mem.lt M1.1
  have c1_1_0 := Mem.cell (v := .int .i64 k) M1.2.1 0 rfl
  have c1_1_1 := Mem.cell (v := .int .i64 n) M1.2.1 1 rfl
  have c1_1_2 := Mem.cell (v := .string m) M1.2.1 2 rfl
  have c1_1_3 := Mem.cell (v := .string s) M1.2.1 3 rfl
  have c1_1_4 := Mem.cell (v := .string i) M1.2.1 4 rfl
  have z1_1 := Mem.lt M1.2.1
  go_wp2_with fail
  refine Calls.named ?_
  intro W2 hW2
  have hB2_ : Below w.heap.size w W2 := by rw [hW2]; exact hB1
  have hw2_ : LaidV W2 := by rw [hW2]; exact hw1
  have M2_ := M1
  rw [← hW2] at M2_
  clear hW2
  have ZZ2_0 := Lib.hid (Mem.lt M2_.1)
  have ZZ2_1 := Lib.hid (Mem.lt M2_.2.1)
  clear c1_0_0 c1_0_1 c1_0_2 c1_0_3 c1_0_4 z1_0 c1_1_0 c1_1_1 c1_1_2 c1_1_3 c1_1_4 z1_1
  refine (hf _).mono ?_
  rintro e w2 ⟨rfl, hb2⟩
  have hB2 := below_then hB2_ hb2
  have hw2 := hw2_.below hb2
  have M2 := M2_.below hb2
  clear M2_ hB2_ hb2 hw2_
  have c2_0_0 := Mem.cell (v := .int .i64 k') M2.1 0 rfl
  have c2_0_1 := Mem.cell (v := .int .i64 n') M2.1 1 rfl
  have c2_0_2 := Mem.cell (v := .string m') M2.1 2 rfl
  have c2_0_3 := Mem.cell (v := .string s') M2.1 3 rfl
  have c2_0_4 := Mem.cell (v := .string i') M2.1 4 rfl
  have z2_0 := Mem.lt M2.1
  have c2_1_0 := Mem.cell (v := .int .i64 k) M2.2.1 0 rfl
  have c2_1_1 := Mem.cell (v := .int .i64 n) M2.2.1 1 rfl
  have c2_1_2 := Mem.cell (v := .string m) M2.2.1 2 rfl
  have c2_1_3 := Mem.cell (v := .string s) M2.2.1 3 rfl
  have c2_1_4 := Mem.cell (v := .string i) M2.2.1 4 rfl
  have z2_1 := Mem.lt M2.2.1
  have f2 := fun j => Mem.free M2.2.1 j
  go_upto_region 5 with (fail)
  have hX2 : (w2.setCells (w.heap.size) 0 [.int .i64 k, .int .i64 n, .string m, .string S8, .string I8]).heap[w.heap.size]? = some (.cells #[.int .i64 k, .int .i64 n, .string m, .string S8, .string I8] 26) := by rw [setCells_block [.int .i64 k, .int .i64 n, .string m, .string S8, .string I8] 0 _ _ (M2).2.1 (by simp)]; rfl
  have hY2 := below_setCells (B := w.heap.size) hB2 (b := w.heap.size) (by have := hB2.size; omega) 0 [.int .i64 k, .int .i64 n, .string m, .string S8, .string I8]
  refine wp_named ?_
  intro w3 hW3
  have hB3 : Below w.heap.size w w3 := by rw [hW3]; exact hY2
  have hw3 : LaidV w3 := hw0.below hB3
  have M3 : Mem w3 [(w.heap.size + 1, .cells #[.int .i64 k', .int .i64 n', .string m', .string s', .string i'] 26), (w.heap.size, .cells #[.int .i64 k, .int .i64 n, .string m, .string S8, .string I8] 26)] := by rw [hW3]; exact ⟨(setCells_other [.int .i64 k, .int .i64 n, .string m, .string S8, .string I8] 0 _ _ (by omega)).trans (M2).1, hX2, trivial⟩
  clear c2_0_0 c2_0_1 c2_0_2 c2_0_3 c2_0_4 z2_0 c2_1_0 c2_1_1 c2_1_2 c2_1_3 c2_1_4 z2_1
  clear hW3 hX2 hY2
  have c3_0_0 := Mem.cell (v := .int .i64 k') M3.1 0 rfl
  have c3_0_1 := Mem.cell (v := .int .i64 n') M3.1 1 rfl
  have c3_0_2 := Mem.cell (v := .string m') M3.1 2 rfl
  have c3_0_3 := Mem.cell (v := .string s') M3.1 3 rfl
  have c3_0_4 := Mem.cell (v := .string i') M3.1 4 rfl
  have z3_0 := Mem.lt M3.1
  have c3_1_0 := Mem.cell (v := .int .i64 k) M3.2.1 0 rfl
  have c3_1_1 := Mem.cell (v := .int .i64 n) M3.2.1 1 rfl
  have c3_1_2 := Mem.cell (v := .string m) M3.2.1 2 rfl
  have c3_1_3 := Mem.cell (v := .string S8) M3.2.1 3 rfl
  have c3_1_4 := Mem.cell (v := .string I8) M3.2.1 4 rfl
  have z3_1 := Mem.lt M3.2.1
  go_wp2_with fail
  refine Calls.named ?_
  intro W4 hW4
  have hB4_ : Below w.heap.size w W4 := by rw [hW4]; exact hB3
  have hw4_ : LaidV W4 := by rw [hW4]; exact hw3
  have M4_ := M3
  rw [← hW4] at M4_
  clear hW4
  have ZZ4_0 := Lib.hid (Mem.lt M4_.1)
  have ZZ4_1 := Lib.hid (Mem.lt M4_.2.1)
  clear c3_0_0 c3_0_1 c3_0_2 c3_0_3 c3_0_4 z3_0 c3_1_0 c3_1_1 c3_1_2 c3_1_3 c3_1_4 z3_1
  refine (hf' _).mono ?_
  rintro e w4 ⟨rfl, hb4⟩
  have hB4 := below_then hB4_ hb4
  have hw4 := hw4_.below hb4
  have M4 := M4_.below hb4
  clear M4_ hB4_ hb4 hw4_
  have c4_0_0 := Mem.cell (v := .int .i64 k') M4.1 0 rfl
  have c4_0_1 := Mem.cell (v := .int .i64 n') M4.1 1 rfl
  have c4_0_2 := Mem.cell (v := .string m') M4.1 2 rfl
  have c4_0_3 := Mem.cell (v := .string s') M4.1 3 rfl
  have c4_0_4 := Mem.cell (v := .string i') M4.1 4 rfl
  have z4_0 := Mem.lt M4.1
  have c4_1_0 := Mem.cell (v := .int .i64 k) M4.2.1 0 rfl
  have c4_1_1 := Mem.cell (v := .int .i64 n) M4.2.1 1 rfl
  have c4_1_2 := Mem.cell (v := .string m) M4.2.1 2 rfl
  have c4_1_3 := Mem.cell (v := .string S8) M4.2.1 3 rfl
  have c4_1_4 := Mem.cell (v := .string I8) M4.2.1 4 rfl
  have z4_1 := Mem.lt M4.2.1
  have f4 := fun j => Mem.free M4.1 j
  go_upto_region 6 with (fail)
  have hX4 : (w4.setCells (w.heap.size + 1) 0 [.int .i64 k', .int .i64 n', .string m', .string S8', .string I8']).heap[w.heap.size + 1]? = some (.cells #[.int .i64 k', .int .i64 n', .string m', .string S8', .string I8'] 26) := by rw [setCells_block [.int .i64 k', .int .i64 n', .string m', .string S8', .string I8'] 0 _ _ (M4).1 (by simp)]; rfl
  have hY4 := below_setCells (B := w.heap.size) hB4 (b := w.heap.size + 1) (by have := hB4.size; omega) 0 [.int .i64 k', .int .i64 n', .string m', .string S8', .string I8']
  refine wp_named ?_
  intro w5 hW5
  have hB5 : Below w.heap.size w w5 := by rw [hW5]; exact hY4
  have hw5 : LaidV w5 := hw0.below hB5
  have M5 : Mem w5 [(w.heap.size + 1, .cells #[.int .i64 k', .int .i64 n', .string m', .string S8', .string I8'] 26), (w.heap.size, .cells #[.int .i64 k, .int .i64 n, .string m, .string S8, .string I8] 26)] := by rw [hW5]; exact ⟨hX4, (setCells_other [.int .i64 k', .int .i64 n', .string m', .string S8', .string I8'] 0 _ _ (by omega)).trans (M4).2.1, trivial⟩
  clear c4_0_0 c4_0_1 c4_0_2 c4_0_3 c4_0_4 z4_0 c4_1_0 c4_1_1 c4_1_2 c4_1_3 c4_1_4 z4_1
  clear hW5 hX4 hY4
  have c5_0_0 := Mem.cell (v := .int .i64 k') M5.1 0 rfl
  have c5_0_1 := Mem.cell (v := .int .i64 n') M5.1 1 rfl
  have c5_0_2 := Mem.cell (v := .string m') M5.1 2 rfl
  have c5_0_3 := Mem.cell (v := .string S8') M5.1 3 rfl
  have c5_0_4 := Mem.cell (v := .string I8') M5.1 4 rfl
  have z5_0 := Mem.lt M5.1
  have c5_1_0 := Mem.cell (v := .int .i64 k) M5.2.1 0 rfl
  have c5_1_1 := Mem.cell (v := .int .i64 n) M5.2.1 1 rfl
  have c5_1_2 := Mem.cell (v := .string m) M5.2.1 2 rfl
  have c5_1_3 := Mem.cell (v := .string S8) M5.2.1 3 rfl
  have c5_1_4 := Mem.cell (v := .string I8) M5.2.1 4 rfl
  have z5_1 := Mem.lt M5.2.1
  go_wp2_with fail
  refine Calls.named ?_
  intro W6 hW6
  have hB6_ : Below w.heap.size w W6 := by rw [hW6]; exact hB5
  have hw6_ : LaidV W6 := by rw [hW6]; exact hw5
  have M6_ := M5
  rw [← hW6] at M6_
  clear hW6
  have ZZ6_0 := Lib.hid (Mem.lt M6_.1)
  have ZZ6_1 := Lib.hid (Mem.lt M6_.2.1)
  clear c5_0_0 c5_0_1 c5_0_2 c5_0_3 c5_0_4 z5_0 c5_1_0 c5_1_1 c5_1_2 c5_1_3 c5_1_4 z5_1
  refine (hr _ hw6_).mono ?_
  rintro e w6 ⟨rfl, hb6⟩
  have hB6 := below_then hB6_ hb6
  have hw6 := hw6_.below hb6
  have M6 := M6_.below hb6
  clear M6_ hB6_ hb6 hw6_
  have c6_0_0 := Mem.cell (v := .int .i64 k') M6.1 0 rfl
  have c6_0_1 := Mem.cell (v := .int .i64 n') M6.1 1 rfl
  have c6_0_2 := Mem.cell (v := .string m') M6.1 2 rfl
  have c6_0_3 := Mem.cell (v := .string S8') M6.1 3 rfl
  have c6_0_4 := Mem.cell (v := .string I8') M6.1 4 rfl
  have z6_0 := Mem.lt M6.1
  have c6_1_0 := Mem.cell (v := .int .i64 k) M6.2.1 0 rfl
  have c6_1_1 := Mem.cell (v := .int .i64 n) M6.2.1 1 rfl
  have c6_1_2 := Mem.cell (v := .string m) M6.2.1 2 rfl
  have c6_1_3 := Mem.cell (v := .string S8) M6.2.1 3 rfl
  have c6_1_4 := Mem.cell (v := .string I8) M6.2.1 4 rfl
  have z6_1 := Mem.lt M6.2.1
  go_wp2_with fail
  refine Calls.named ?_
  intro W7 hW7
  have hB7_ : Below w.heap.size w W7 := by rw [hW7]; exact hB6
  have hw7_ : LaidV W7 := by rw [hW7]; exact hw6
  have M7_ := M6
  rw [← hW7] at M7_
  clear hW7
  have ZZ7_0 := Lib.hid (Mem.lt M7_.1)
  have ZZ7_1 := Lib.hid (Mem.lt M7_.2.1)
  clear c6_0_0 c6_0_1 c6_0_2 c6_0_3 c6_0_4 z6_0 c6_1_0 c6_1_1 c6_1_2 c6_1_3 c6_1_4 z6_1
  refine (hr' _ hw7_).mono ?_
  rintro e w7 ⟨rfl, hb7⟩
  have hB7 := below_then hB7_ hb7
  have hw7 := hw7_.below hb7
  have M7 := M7_.below hb7
  clear M7_ hB7_ hb7 hw7_
  have c7_0_0 := Mem.cell (v := .int .i64 k') M7.1 0 rfl
  have c7_0_1 := Mem.cell (v := .int .i64 n') M7.1 1 rfl
  have c7_0_2 := Mem.cell (v := .string m') M7.1 2 rfl
  have c7_0_3 := Mem.cell (v := .string S8') M7.1 3 rfl
  have c7_0_4 := Mem.cell (v := .string I8') M7.1 4 rfl
  have z7_0 := Mem.lt M7.1
  have c7_1_0 := Mem.cell (v := .int .i64 k) M7.2.1 0 rfl
  have c7_1_1 := Mem.cell (v := .int .i64 n) M7.2.1 1 rfl
  have c7_1_2 := Mem.cell (v := .string m) M7.2.1 2 rfl
  have c7_1_3 := Mem.cell (v := .string S8) M7.2.1 3 rfl
  have c7_1_4 := Mem.cell (v := .string I8) M7.2.1 4 rfl
  have z7_1 := Mem.lt M7.2.1
  go_upto_region 8 with (fail)
  refine wp_named ?_
  intro w8 hW8
  have hB8 : Below w.heap.size w w8 := by rw [hW8]; exact hB7
  have hw8 : LaidV w8 := by rw [hW8]; exact hw7
  have M8 := M7
  rw [← hW8] at M8
  clear c7_0_0 c7_0_1 c7_0_2 c7_0_3 c7_0_4 z7_0 c7_1_0 c7_1_1 c7_1_2 c7_1_3 c7_1_4 z7_1
  clear hW8
  have c8_0_0 := Mem.cell (v := .int .i64 k') M8.1 0 rfl
  have c8_0_1 := Mem.cell (v := .int .i64 n') M8.1 1 rfl
  have c8_0_2 := Mem.cell (v := .string m') M8.1 2 rfl
  have c8_0_3 := Mem.cell (v := .string S8') M8.1 3 rfl
  have c8_0_4 := Mem.cell (v := .string I8') M8.1 4 rfl
  have z8_0 := Mem.lt M8.1
  have c8_1_0 := Mem.cell (v := .int .i64 k) M8.2.1 0 rfl
  have c8_1_1 := Mem.cell (v := .int .i64 n) M8.2.1 1 rfl
  have c8_1_2 := Mem.cell (v := .string m) M8.2.1 2 rfl
  have c8_1_3 := Mem.cell (v := .string S8) M8.2.1 3 rfl
  have c8_1_4 := Mem.cell (v := .string I8) M8.2.1 4 rfl
  have z8_1 := Mem.lt M8.2.1
  have p8_0_0 := fun p : After w8 => Mem.cell (v := .int .i64 k') (Mem.after M8 p).1 0 rfl
  have p8_0_1 := fun p : After w8 => Mem.cell (v := .int .i64 n') (Mem.after M8 p).1 1 rfl
  have p8_0_2 := fun p : After w8 => Mem.cell (v := .string m') (Mem.after M8 p).1 2 rfl
  have p8_0_3 := fun p : After w8 => Mem.cell (v := .string S8') (Mem.after M8 p).1 3 rfl
  have p8_0_4 := fun p : After w8 => Mem.cell (v := .string I8') (Mem.after M8 p).1 4 rfl
  have p8_1_0 := fun p : After w8 => Mem.cell (v := .int .i64 k) (Mem.after M8 p).2.1 0 rfl
  have p8_1_1 := fun p : After w8 => Mem.cell (v := .int .i64 n) (Mem.after M8 p).2.1 1 rfl
  have p8_1_2 := fun p : After w8 => Mem.cell (v := .string m) (Mem.after M8 p).2.1 2 rfl
  have p8_1_3 := fun p : After w8 => Mem.cell (v := .string S8) (Mem.after M8 p).2.1 3 rfl
  have p8_1_4 := fun p : After w8 => Mem.cell (v := .string I8) (Mem.after M8 p).2.1 4 rfl
  refine wp_region_after (by kernel_rfl) (by kernel_rfl) ?_
  repeat (go_big_quiet_step ((first | (go_at_call 11; with_reducible exact After.call (hp _ ((LaidV.after hw8 _)))) | (go_at_call 11; with_reducible exact After.call (hp' _ ((LaidV.after hw8 _)))))))
  refine wpQuiet_nil ?_
  rintro _ ⟨p8, rfl⟩
  clear p8_0_0 p8_0_1 p8_0_2 p8_0_3 p8_0_4 p8_1_0 p8_1_1 p8_1_2 p8_1_3 p8_1_4
  clear c8_0_0 c8_0_1 c8_0_2 c8_0_3 c8_0_4 z8_0 c8_1_0 c8_1_1 c8_1_2 c8_1_3 c8_1_4 z8_1
  obtain ⟨w9, hW9⟩ : ∃ x, x = p8.world := ⟨_, rfl⟩
  have hB9 : Below w.heap.size w w9 := by rw [hW9]; exact below_then hB8 p8.h
  have hw9 : LaidV w9 := by rw [hW9]; exact hw8.below p8.h
  have M9 := M8.below p8.h
  rw [← hW9] at M9
  rw [← hW9]
  clear hW9
  clear p8
  have c9_0_0 := Mem.cell (v := .int .i64 k') M9.1 0 rfl
  have c9_0_1 := Mem.cell (v := .int .i64 n') M9.1 1 rfl
  have c9_0_2 := Mem.cell (v := .string m') M9.1 2 rfl
  have c9_0_3 := Mem.cell (v := .string S8') M9.1 3 rfl
  have c9_0_4 := Mem.cell (v := .string I8') M9.1 4 rfl
  have z9_0 := Mem.lt M9.1
  have c9_1_0 := Mem.cell (v := .int .i64 k) M9.2.1 0 rfl
  have c9_1_1 := Mem.cell (v := .int .i64 n) M9.2.1 1 rfl
  have c9_1_2 := Mem.cell (v := .string m) M9.2.1 2 rfl
  have c9_1_3 := Mem.cell (v := .string S8) M9.2.1 3 rfl
  have c9_1_4 := Mem.cell (v := .string I8) M9.2.1 4 rfl
  have z9_1 := Mem.lt M9.2.1
  go_wp2_with fail
  rw [HS.out]
  go_wp2_with fail
  refine Calls.named ?_
  intro W10 hW10
  have hB10_ : Below w.heap.size w W10 := by rw [hW10]; exact hB9
  have hw10_ : LaidV W10 := by rw [hW10]; exact hw9
  have M10_ := M9
  rw [← hW10] at M10_
  clear hW10
  have ZZ10_0 := Lib.hid (Mem.lt M10_.1)
  have ZZ10_1 := Lib.hid (Mem.lt M10_.2.1)
  clear c9_0_0 c9_0_1 c9_0_2 c9_0_3 c9_0_4 z9_0 c9_1_0 c9_1_1 c9_1_2 c9_1_3 c9_1_4 z9_1
  refine (hg _ hw10_).mono ?_
  rintro e w10 ⟨rfl, hb10⟩
  have hB10 := below_then hB10_ hb10
  have hw10 := hw10_.below hb10
  have M10 := M10_.below hb10
  clear M10_ hB10_ hb10 hw10_
  have c10_0_0 := Mem.cell (v := .int .i64 k') M10.1 0 rfl
  have c10_0_1 := Mem.cell (v := .int .i64 n') M10.1 1 rfl
  have c10_0_2 := Mem.cell (v := .string m') M10.1 2 rfl
  have c10_0_3 := Mem.cell (v := .string S8') M10.1 3 rfl
  have c10_0_4 := Mem.cell (v := .string I8') M10.1 4 rfl
  have z10_0 := Mem.lt M10.1
  have c10_1_0 := Mem.cell (v := .int .i64 k) M10.2.1 0 rfl
  have c10_1_1 := Mem.cell (v := .int .i64 n) M10.2.1 1 rfl
  have c10_1_2 := Mem.cell (v := .string m) M10.2.1 2 rfl
  have c10_1_3 := Mem.cell (v := .string S8) M10.2.1 3 rfl
  have c10_1_4 := Mem.cell (v := .string I8) M10.2.1 4 rfl
  have z10_1 := Mem.lt M10.2.1
  go_wp2_with fail
  refine Calls.named ?_
  intro W11 hW11
  have hB11_ : Below w.heap.size w W11 := by rw [hW11]; exact (below_al hB10 _)
  have hw11_ : LaidV W11 := by rw [hW11]; exact (hw10.alloc _)
  have M11_ := (M10).new' (w10.heap.size) (by rfl) (.cells #[.int .i64 k, .int .i64 n, .string m, .string S8, .string I8] 26)
  rw [← hW11] at M11_
  clear hW11
  have ZZ11_0 := Lib.hid (Mem.lt M11_.1)
  have ZZ11_1 := Lib.hid (Mem.lt M11_.2.1)
  have ZZ11_2 := Lib.hid (Mem.lt M11_.2.2.1)
  clear c10_0_0 c10_0_1 c10_0_2 c10_0_3 c10_0_4 z10_0 c10_1_0 c10_1_1 c10_1_2 c10_1_3 c10_1_4 z10_1
  refine (hg' _ hw11_).mono ?_
  rintro e w11 ⟨rfl, hb11⟩
  have hB11 := below_then hB11_ hb11
  have hw11 := hw11_.below hb11
  have M11 := M11_.below hb11
  clear M11_ hB11_ hb11 hw11_
  have c11_0_0 := Mem.cell (v := .int .i64 k) M11.1 0 rfl
  have c11_0_1 := Mem.cell (v := .int .i64 n) M11.1 1 rfl
  have c11_0_2 := Mem.cell (v := .string m) M11.1 2 rfl
  have c11_0_3 := Mem.cell (v := .string S8) M11.1 3 rfl
  have c11_0_4 := Mem.cell (v := .string I8) M11.1 4 rfl
  have z11_0 := Mem.lt M11.1
  have c11_1_0 := Mem.cell (v := .int .i64 k') M11.2.1 0 rfl
  have c11_1_1 := Mem.cell (v := .int .i64 n') M11.2.1 1 rfl
  have c11_1_2 := Mem.cell (v := .string m') M11.2.1 2 rfl
  have c11_1_3 := Mem.cell (v := .string S8') M11.2.1 3 rfl
  have c11_1_4 := Mem.cell (v := .string I8') M11.2.1 4 rfl
  have z11_1 := Mem.lt M11.2.1
  have c11_2_0 := Mem.cell (v := .int .i64 k) M11.2.2.1 0 rfl
  have c11_2_1 := Mem.cell (v := .int .i64 n) M11.2.2.1 1 rfl
  have c11_2_2 := Mem.cell (v := .string m) M11.2.2.1 2 rfl
  have c11_2_3 := Mem.cell (v := .string S8) M11.2.2.1 3 rfl
  have c11_2_4 := Mem.cell (v := .string I8) M11.2.2.1 4 rfl
  have z11_2 := Mem.lt M11.2.2.1
  go_upto_region 11 with (fail)
  refine wp_named ?_
  intro w12 hW12
  have hB12 : Below w.heap.size w w12 := by rw [hW12]; exact (below_al hB11 _)
  have hw12 : LaidV w12 := by rw [hW12]; exact (hw11.alloc _)
  have M12 := (M11).new' (w11.heap.size) (by rfl) (.cells #[.int .i64 k', .int .i64 n', .string m', .string S8', .string I8'] 26)
  rw [← hW12] at M12
  clear c11_0_0 c11_0_1 c11_0_2 c11_0_3 c11_0_4 z11_0 c11_1_0 c11_1_1 c11_1_2 c11_1_3 c11_1_4 z11_1 c11_2_0 c11_2_1 c11_2_2 c11_2_3 c11_2_4 z11_2
  clear hW12
  have c12_0_0 := Mem.cell (v := .int .i64 k') M12.1 0 rfl
  have c12_0_1 := Mem.cell (v := .int .i64 n') M12.1 1 rfl
  have c12_0_2 := Mem.cell (v := .string m') M12.1 2 rfl
  have c12_0_3 := Mem.cell (v := .string S8') M12.1 3 rfl
  have c12_0_4 := Mem.cell (v := .string I8') M12.1 4 rfl
  have z12_0 := Mem.lt M12.1
  have c12_1_0 := Mem.cell (v := .int .i64 k) M12.2.1 0 rfl
  have c12_1_1 := Mem.cell (v := .int .i64 n) M12.2.1 1 rfl
  have c12_1_2 := Mem.cell (v := .string m) M12.2.1 2 rfl
  have c12_1_3 := Mem.cell (v := .string S8) M12.2.1 3 rfl
  have c12_1_4 := Mem.cell (v := .string I8) M12.2.1 4 rfl
  have z12_1 := Mem.lt M12.2.1
  have c12_2_0 := Mem.cell (v := .int .i64 k') M12.2.2.1 0 rfl
  have c12_2_1 := Mem.cell (v := .int .i64 n') M12.2.2.1 1 rfl
  have c12_2_2 := Mem.cell (v := .string m') M12.2.2.1 2 rfl
  have c12_2_3 := Mem.cell (v := .string S8') M12.2.2.1 3 rfl
  have c12_2_4 := Mem.cell (v := .string I8') M12.2.2.1 4 rfl
  have z12_2 := Mem.lt M12.2.2.1
  have c12_3_0 := Mem.cell (v := .int .i64 k) M12.2.2.2.1 0 rfl
  have c12_3_1 := Mem.cell (v := .int .i64 n) M12.2.2.2.1 1 rfl
  have c12_3_2 := Mem.cell (v := .string m) M12.2.2.2.1 2 rfl
  have c12_3_3 := Mem.cell (v := .string S8) M12.2.2.2.1 3 rfl
  have c12_3_4 := Mem.cell (v := .string I8) M12.2.2.2.1 4 rfl
  have z12_3 := Mem.lt M12.2.2.2.1
  cases Q
  all_goals
    have p12_0_0 := fun p : After w12 => Mem.cell (v := .int .i64 k') (Mem.after M12 p).1 0 rfl
    have p12_0_1 := fun p : After w12 => Mem.cell (v := .int .i64 n') (Mem.after M12 p).1 1 rfl
    have p12_0_2 := fun p : After w12 => Mem.cell (v := .string m') (Mem.after M12 p).1 2 rfl
    have p12_0_3 := fun p : After w12 => Mem.cell (v := .string S8') (Mem.after M12 p).1 3 rfl
    have p12_0_4 := fun p : After w12 => Mem.cell (v := .string I8') (Mem.after M12 p).1 4 rfl
    have p12_1_0 := fun p : After w12 => Mem.cell (v := .int .i64 k) (Mem.after M12 p).2.1 0 rfl
    have p12_1_1 := fun p : After w12 => Mem.cell (v := .int .i64 n) (Mem.after M12 p).2.1 1 rfl
    have p12_1_2 := fun p : After w12 => Mem.cell (v := .string m) (Mem.after M12 p).2.1 2 rfl
    have p12_1_3 := fun p : After w12 => Mem.cell (v := .string S8) (Mem.after M12 p).2.1 3 rfl
    have p12_1_4 := fun p : After w12 => Mem.cell (v := .string I8) (Mem.after M12 p).2.1 4 rfl
    have p12_2_0 := fun p : After w12 => Mem.cell (v := .int .i64 k') (Mem.after M12 p).2.2.1 0 rfl
    have p12_2_1 := fun p : After w12 => Mem.cell (v := .int .i64 n') (Mem.after M12 p).2.2.1 1 rfl
    have p12_2_2 := fun p : After w12 => Mem.cell (v := .string m') (Mem.after M12 p).2.2.1 2 rfl
    have p12_2_3 := fun p : After w12 => Mem.cell (v := .string S8') (Mem.after M12 p).2.2.1 3 rfl
    have p12_2_4 := fun p : After w12 => Mem.cell (v := .string I8') (Mem.after M12 p).2.2.1 4 rfl
    have p12_3_0 := fun p : After w12 => Mem.cell (v := .int .i64 k) (Mem.after M12 p).2.2.2.1 0 rfl
    have p12_3_1 := fun p : After w12 => Mem.cell (v := .int .i64 n) (Mem.after M12 p).2.2.2.1 1 rfl
    have p12_3_2 := fun p : After w12 => Mem.cell (v := .string m) (Mem.after M12 p).2.2.2.1 2 rfl
    have p12_3_3 := fun p : After w12 => Mem.cell (v := .string S8) (Mem.after M12 p).2.2.2.1 3 rfl
    have p12_3_4 := fun p : After w12 => Mem.cell (v := .string I8) (Mem.after M12 p).2.2.2.1 4 rfl
    refine wp_region_after (by kernel_rfl) (by kernel_rfl) ?_
    repeat (go_big_quiet_step ((first | (go_at_call 11; with_reducible exact After.call (hp _ ((LaidV.after hw12 _)))) | (go_at_call 11; with_reducible exact After.call (hp' _ ((LaidV.after hw12 _)))) | (go_at_call 12; with_reducible exact After.call (ht _ ((LaidV.after hw12 _)))) | (go_at_call 12; with_reducible exact After.call (ht' _ ((LaidV.after hw12 _)))))))
    refine wpQuiet_nil ?_
    rintro _ ⟨p12, rfl⟩
    clear p12_0_0 p12_0_1 p12_0_2 p12_0_3 p12_0_4 p12_1_0 p12_1_1 p12_1_2 p12_1_3 p12_1_4 p12_2_0 p12_2_1 p12_2_2 p12_2_3 p12_2_4 p12_3_0 p12_3_1 p12_3_2 p12_3_3 p12_3_4
    clear c12_0_0 c12_0_1 c12_0_2 c12_0_3 c12_0_4 z12_0 c12_1_0 c12_1_1 c12_1_2 c12_1_3 c12_1_4 z12_1 c12_2_0 c12_2_1 c12_2_2 c12_2_3 c12_2_4 z12_2 c12_3_0 c12_3_1 c12_3_2 c12_3_3 c12_3_4 z12_3
    obtain ⟨w13, hW13⟩ : ∃ x, x = p12.world := ⟨_, rfl⟩
    have hB13 : Below w.heap.size w w13 := by rw [hW13]; exact below_then hB12 p12.h
    have hw13 : LaidV w13 := by rw [hW13]; exact hw12.below p12.h
    have M13 := M12.below p12.h
    rw [← hW13] at M13
    rw [← hW13]
    clear hW13
    clear p12
    have c13_0_0 := Mem.cell (v := .int .i64 k') M13.1 0 rfl
    have c13_0_1 := Mem.cell (v := .int .i64 n') M13.1 1 rfl
    have c13_0_2 := Mem.cell (v := .string m') M13.1 2 rfl
    have c13_0_3 := Mem.cell (v := .string S8') M13.1 3 rfl
    have c13_0_4 := Mem.cell (v := .string I8') M13.1 4 rfl
    have z13_0 := Mem.lt M13.1
    have c13_1_0 := Mem.cell (v := .int .i64 k) M13.2.1 0 rfl
    have c13_1_1 := Mem.cell (v := .int .i64 n) M13.2.1 1 rfl
    have c13_1_2 := Mem.cell (v := .string m) M13.2.1 2 rfl
    have c13_1_3 := Mem.cell (v := .string S8) M13.2.1 3 rfl
    have c13_1_4 := Mem.cell (v := .string I8) M13.2.1 4 rfl
    have z13_1 := Mem.lt M13.2.1
    have c13_2_0 := Mem.cell (v := .int .i64 k') M13.2.2.1 0 rfl
    have c13_2_1 := Mem.cell (v := .int .i64 n') M13.2.2.1 1 rfl
    have c13_2_2 := Mem.cell (v := .string m') M13.2.2.1 2 rfl
    have c13_2_3 := Mem.cell (v := .string S8') M13.2.2.1 3 rfl
    have c13_2_4 := Mem.cell (v := .string I8') M13.2.2.1 4 rfl
    have z13_2 := Mem.lt M13.2.2.1
    have c13_3_0 := Mem.cell (v := .int .i64 k) M13.2.2.2.1 0 rfl
    have c13_3_1 := Mem.cell (v := .int .i64 n) M13.2.2.2.1 1 rfl
    have c13_3_2 := Mem.cell (v := .string m) M13.2.2.2.1 2 rfl
    have c13_3_3 := Mem.cell (v := .string S8) M13.2.2.2.1 3 rfl
    have c13_3_4 := Mem.cell (v := .string I8) M13.2.2.2.1 4 rfl
    have z13_3 := Mem.lt M13.2.2.2.1
    go_wp2
    go_ret
    exact ⟨rfl, hB13⟩
theorem vl_size (v : List UInt8) : (⟨v.toArray⟩ : ByteArray).data.toList = v := rfl
theorem valBack_walk (k n : Int) (m s i : ByteArray) (k' n' : Int) (m' s' i' : ByteArray) (ahead behind : ByteArray) (hn : InI64 n) (hz : m.size ≤ 140737488351232 ∧ s.size ≤ 140737488351232 ∧ i.size ≤ 140737488351232) (hn' : InI64 n') (hz' : m'.size ≤ 140737488351232 ∧ s'.size ≤ 140737488351232 ∧ i'.size ≤ 140737488351232) (hah : ahead.size ≤ 140737488351232) (hbe : behind.size ≤ 140737488351232) (w : World) (hw : LaidV w) :
    Calls Tryd.prog 3 #[.agg #[.int .i64 k, .int .i64 n, .string m, .string s, .string i], .agg #[.int .i64 k', .int .i64 n', .string m', .string s', .string i'], .string ahead, .string behind] w fun e w' => e = .returned (.bool true) ∧ Below w.heap.size w w' := by
  have c1 := cut8_size s
  have c2 := cut8_size i
  have c3 := cut8_size s'
  have c4 := cut8_size i'
  have hf := fun w => few_any k n m s i w
  have hf' := fun w => few_any k' n' m' s' i' w
  have hr := fun w hw => vright_any k n m (cut8 s) (cut8 i) hz.1 (by omega) (by omega) w hw
  have hr' := fun w hw => vright_any k' n' m' (cut8 s') (cut8 i') hz'.1 (by omega) (by omega) w hw
  have hp := fun w hw => vput_any k n hn m (cut8 s) (cut8 i) hz.1 (by omega) (by omega) w hw
  have hp' := fun w hw => vput_any k' n' hn' m' (cut8 s') (cut8 i') hz'.1 (by omega) (by omega) w hw
  have ht := fun w hw => vtext_any k n hn m (cut8 s) (cut8 i) hz.1 (by omega) (by omega) w hw
  have ht' := fun w hw => vtext_any k' n' hn' m' (cut8 s') (cut8 i') hz'.1 (by omega) (by omega) w hw
  have q3 := eql_value k n k' n' m (cut8 s) (cut8 i) m' (cut8 s') (cut8 i') _ _ _ _ _ rfl rfl rfl rfl rfl
  have q4 := sameV_iff k n m (cut8 s) (cut8 i) k' n' m' (cut8 s') (cut8 i')
  cases hv : (vl k n m (cut8 s) (cut8 i)).right with
  | false =>
    rw [hv] at hr
    have e1 : (vl k n m (cut8 s) (cut8 i)).put = [] := put_no hv
    have e2 : (vl k n m (cut8 s) (cut8 i)).text = [63] := if_neg (by rw [hv]; decide)
    rw [e1] at hp
    rw [e2] at ht
    exact back_a k n m s i k' n' m' s' i' _ _ _ _ ahead behind w hw hf hf' hr hp ht
  | true =>
    rw [hv] at hr
    cases hv' : (vl k' n' m' (cut8 s') (cut8 i')).right with
    | false =>
      rw [hv'] at hr'
      exact back_b k n m s i k' n' m' s' i' _ _ _ _ ahead behind w hw hf hf' hr hr'
    | true =>
      rw [hv'] at hr'
      have l1 := put_length (v := vl k n m (cut8 s) (cut8 i))
      have l2 := put_length (v := vl k' n' m' (cut8 s') (cut8 i'))
      obtain ⟨v, hvv⟩ : ∃ v, v = vl k n m (cut8 s) (cut8 i) := ⟨_, rfl⟩
      obtain ⟨v', hvv'⟩ : ∃ v, v = vl k' n' m' (cut8 s') (cut8 i') := ⟨_, rfl⟩
      have hvn : InI64 v.n := by rw [hvv]; exact hn
      have hvn' : InI64 v'.n := by rw [hvv']; exact hn'
      rw [← hvv] at hp ht hv l1 q4
      rw [← hvv'] at hp' ht' hv' l2 q4
      have hSs : ((((ahead ++ ⟨v.put.toArray⟩) ++ ⟨v'.put.toArray⟩) ++ behind) : ByteArray).size = ahead.size + v.put.length + v'.put.length + behind.size := by
        rw [ByteArray.size_append, ByteArray.size_append, ByteArray.size_append]
        rfl
      have hSl : ((((ahead ++ ⟨v.put.toArray⟩) ++ ⟨v'.put.toArray⟩) ++ behind) : ByteArray).data.toList = ahead.data.toList ++ (v.put ++ (v'.put ++ behind.data.toList)) := by
        simp [ByteArray.data_append]
      have hal : ahead.data.toList.length = ahead.size := Array.length_toList
      have hg := fun w hw => vget_any (((ahead ++ ⟨v.put.toArray⟩) ++ ⟨v'.put.toArray⟩) ++ behind) ahead.size w (by omega) hw
      have d1 : (ahead.data.toList ++ (v.put ++ (v'.put ++ behind.data.toList))).drop ahead.size = v.put ++ (v'.put ++ behind.data.toList) := by rw [← hal, List.drop_left]
      rw [hSl, d1, getV_put hv hvn] at hg
      have hg' := fun w hw => vget_any (((ahead ++ ⟨v.put.toArray⟩) ++ ⟨v'.put.toArray⟩) ++ behind) (ahead.size + v.put.length) w (by omega) hw
      have d2 : (ahead.data.toList ++ (v.put ++ (v'.put ++ behind.data.toList))).drop (ahead.size + v.put.length) = v'.put ++ behind.data.toList := by rw [← List.drop_drop, d1, List.drop_left]
      rw [hSl, d2, getV_put hv' hvn'] at hg'
      have q1 : ((⟨v.put.toArray⟩ : ByteArray).toList == (⟨v'.put.toArray⟩ : ByteArray).toList) = sameV k n m (cut8 s) (cut8 i) k' n' m' (cut8 s') (cut8 i') := by
        rw [ByteArray.toList_eq, ByteArray.toList_eq]
        exact beq_same (q4.trans ⟨fun e => by rw [e], fun e => put_inj hv hvn hv' hvn' e⟩)
      have q2 : ((⟨v.text.toArray⟩ : ByteArray).toList == (⟨v'.text.toArray⟩ : ByteArray).toList) = sameV k n m (cut8 s) (cut8 i) k' n' m' (cut8 s') (cut8 i') := by
        rw [ByteArray.toList_eq, ByteArray.toList_eq]
        exact beq_same (q4.trans ⟨fun e => by rw [e], fun e => text_inj hv hvn hv' hvn' e⟩)
      subst hvv
      subst hvv'
      exact back_c k n m s i k' n' m' s' i' _ _ _ _ ahead behind ⟨(vl k n m (cut8 s) (cut8 i)).put.toArray⟩ ⟨(vl k' n' m' (cut8 s') (cut8 i')).put.toArray⟩ _ _ _ _ _ _ w hw hah hbe l1 l2 rfl (by rw [hSs]) (by omega) q1 q2 q3 hf hf' hr hr' hp hp' ht ht' hg hg'
end Go.Proofs.YtcgelcccboifjaaDoor
