/- What is put of an instruction is got where it stands, what is shown is parsed; two are put, and shown, alike just if they are the same. The walk: the law answers true; no memory that was there is turned. Conditions: the integers are of their kinds, a string has at most 140737488351232 bytes, the listed package variables hold what the program's text lays. -/
import Derived.Test.YthplcmoojmnofaaDoorOpOnceA
import Derived.Test.YthplcmoojmnofaaDoorMem
namespace Go.Proofs.YthplcmoojmnofaaDoor
open Go.RowKit
theorem data_app (x y : ByteArray) : (x ++ y).data.toList = x.data.toList ++ y.data.toList := by rw [ByteArray.data_append]; simp
theorem size_len (x : ByteArray) : x.data.toList.length = x.size := Array.length_toList
theorem opPut_le (c a : Int) : (opPut c a).length ≤ 3 := by
  cases h : rightB c a with
  | false => rw [opPut_wrong h]; simp
  | true => rw [opPut_length h]; unfold opSize; split <;> omega
theorem back1 (c a d b : Int) (h : rightB c a = true) (x y : ByteArray) : opGet (x ++ ⟨(opPut c a).toArray⟩ ++ ⟨(opPut d b).toArray⟩ ++ y).data.toList x.size = some ((c, a), (x.size : Int) + ((opPut c a).length : Int)) := by
  have h := opGet_put h x.data.toList (opPut d b ++ y.data.toList)
  rw [size_len] at h
  rw [← h, data_app, data_app, data_app]
  simp
theorem back2 (c a d b : Int) (h : rightB d b = true) (x y : ByteArray) : opGet (x ++ ⟨(opPut c a).toArray⟩ ++ ⟨(opPut d b).toArray⟩ ++ y).data.toList ((x.size : Int) + ((opPut c a).length : Int)) = some ((d, b), (x.size : Int) + (opPut c a).length + (opPut d b).length) := by
  have h := opGet_put h (x.data.toList ++ opPut c a) y.data.toList
  rw [List.length_append, size_len] at h
  rw [← Int.natCast_add, ← h, data_app, data_app, data_app]
theorem app_size (x y : ByteArray) (p q : List UInt8) : (x ++ ⟨p.toArray⟩ ++ ⟨q.toArray⟩ ++ y).size = x.size + p.length + q.length + y.size := by
  rw [ByteArray.size_append, ByteArray.size_append, ByteArray.size_append]
  rfl
set_option maxHeartbeats 2000000 in
theorem back_same (c a : Int) (ahead behind : ByteArray) (hx : ahead.size ≤ 140737488351232) (hy : behind.size ≤ 140737488351232) (w : World) (hw : LaidOp w)
    (hr : rightB c a = true) (ht : rightB c a = true) :
    Calls Tryd.prog 3 #[.agg #[.int .i64 c, .int .i64 a], .agg #[.int .i64 c, .int .i64 a], .string ahead, .string behind] w fun e w' => e = .returned (.bool true) ∧ Below w.heap.size w w' := by
  have l1 := opPut_le c a
  have l2 := opPut_le c a
  have l3 := (opText_length hr).1
  have B1 := Lib.hid (back1 c a c a hr ahead behind)
  have B2 := Lib.hid (back2 c a c a ht ahead behind)
  have P1 : Hid (opParse (⟨(opText c a).toArray⟩ : ByteArray).data.toList = some (c, a)) := Lib.hid (by simpa using opParse_text hr)
  have hsz : (ahead ++ ⟨(opPut c a).toArray⟩ ++ ⟨(opPut c a).toArray⟩ ++ behind).size ≤ 9223372036854775807 := by rw [app_size]; omega
  have HR := Lib.hid hr
  have HT := Lib.hid ht
  clear hr ht
  go_enter Tryd.func3, Tryd.ntmps3
  have hB0 := Below.refl w.heap.size w
  have M0 := Mem.nil w
  go_wp2_with fail
  refine Calls.named ?_
  intro W1 hW1
  have hB1_ : Below w.heap.size w W1 := by rw [hW1]; exact (below_al (below_al hB0 _) _)
  have hw1_ : LaidOp W1 := by rw [hW1]; exact ((hw.alloc _).alloc _)
  have M1_ := ((M0).new' (w.heap.size) (by rfl) (.cells #[.int .i64 c, .int .i64 a] 23)).new' (w.heap.size + 1) (by simp) (.cells #[.int .i64 c, .int .i64 a] 23)
  rw [← hW1] at M1_
  clear hW1
  refine (oexamples_any _ hw1_).mono ?_
  rintro e w1 ⟨rfl, hb1⟩
  have hB1 := below_then hB1_ hb1
  have hw1 := hw1_.below hb1
  have M1 := M1_.below hb1
  clear M1_ hB1_ hb1 hw1_
  have c1_0_0 := Mem.cell (v := .int .i64 c) M1.1 0 rfl
  have c1_0_1 := Mem.cell (v := .int .i64 a) M1.1 1 rfl
  have z1_0 := Mem.lt M1.1
  have c1_1_0 := Mem.cell (v := .int .i64 c) M1.2.1 0 rfl
  have c1_1_1 := Mem.cell (v := .int .i64 a) M1.2.1 1 rfl
  have z1_1 := Mem.lt M1.2.1
  go_wp2_with fail
  refine Calls.named ?_
  intro W2 hW2
  have hB2_ : Below w.heap.size w W2 := by rw [hW2]; exact hB1
  have hw2_ : LaidOp W2 := by rw [hW2]; exact hw1
  have M2_ := M1
  rw [← hW2] at M2_
  clear hW2
  clear c1_0_0 c1_0_1 z1_0 c1_1_0 c1_1_1 z1_1
  refine (right_any _ _ _ hw2_).mono ?_
  rw [HR.out]
  rintro e w2 ⟨rfl, hb2⟩
  have hB2 := below_then hB2_ hb2
  have hw2 := hw2_.below hb2
  have M2 := M2_.below hb2
  clear M2_ hB2_ hb2 hw2_
  have c2_0_0 := Mem.cell (v := .int .i64 c) M2.1 0 rfl
  have c2_0_1 := Mem.cell (v := .int .i64 a) M2.1 1 rfl
  have z2_0 := Mem.lt M2.1
  have c2_1_0 := Mem.cell (v := .int .i64 c) M2.2.1 0 rfl
  have c2_1_1 := Mem.cell (v := .int .i64 a) M2.2.1 1 rfl
  have z2_1 := Mem.lt M2.2.1
  go_wp2_with fail
  refine Calls.named ?_
  intro W3 hW3
  have hB3_ : Below w.heap.size w W3 := by rw [hW3]; exact hB2
  have hw3_ : LaidOp W3 := by rw [hW3]; exact hw2
  have M3_ := M2
  rw [← hW3] at M3_
  clear hW3
  clear c2_0_0 c2_0_1 z2_0 c2_1_0 c2_1_1 z2_1
  refine (right_any _ _ _ hw3_).mono ?_
  rw [HT.out]
  rintro e w3 ⟨rfl, hb3⟩
  have hB3 := below_then hB3_ hb3
  have hw3 := hw3_.below hb3
  have M3 := M3_.below hb3
  clear M3_ hB3_ hb3 hw3_
  have c3_0_0 := Mem.cell (v := .int .i64 c) M3.1 0 rfl
  have c3_0_1 := Mem.cell (v := .int .i64 a) M3.1 1 rfl
  have z3_0 := Mem.lt M3.1
  have c3_1_0 := Mem.cell (v := .int .i64 c) M3.2.1 0 rfl
  have c3_1_1 := Mem.cell (v := .int .i64 a) M3.2.1 1 rfl
  have z3_1 := Mem.lt M3.2.1
  go_upto_region 6 with (fail)
  refine wp_named ?_
  intro w4 hW4
  have hB4 : Below w.heap.size w w4 := by rw [hW4]; exact hB3
  have hw4 : LaidOp w4 := by rw [hW4]; exact hw3
  have M4 := M3
  rw [← hW4] at M4
  clear c3_0_0 c3_0_1 z3_0 c3_1_0 c3_1_1 z3_1
  clear hW4
  have c4_0_0 := Mem.cell (v := .int .i64 c) M4.1 0 rfl
  have c4_0_1 := Mem.cell (v := .int .i64 a) M4.1 1 rfl
  have z4_0 := Mem.lt M4.1
  have c4_1_0 := Mem.cell (v := .int .i64 c) M4.2.1 0 rfl
  have c4_1_1 := Mem.cell (v := .int .i64 a) M4.2.1 1 rfl
  have z4_1 := Mem.lt M4.2.1
  have p4_0_0 := fun p : After w4 => Mem.cell (v := .int .i64 c) (Mem.after M4 p).1 0 rfl
  have p4_0_1 := fun p : After w4 => Mem.cell (v := .int .i64 a) (Mem.after M4 p).1 1 rfl
  have p4_1_0 := fun p : After w4 => Mem.cell (v := .int .i64 c) (Mem.after M4 p).2.1 0 rfl
  have p4_1_1 := fun p : After w4 => Mem.cell (v := .int .i64 a) (Mem.after M4 p).2.1 1 rfl
  refine wp_region_after (by kernel_rfl) (by kernel_rfl) ?_
  repeat (go_big_quiet_step ((go_at_call 10; with_reducible exact After.call (put_op _ _ _ (LaidOp.after hw4 _)))))
  refine wpQuiet_nil ?_
  rintro _ ⟨p4, rfl⟩
  clear p4_0_0 p4_0_1 p4_1_0 p4_1_1
  clear c4_0_0 c4_0_1 z4_0 c4_1_0 c4_1_1 z4_1
  obtain ⟨w5, hW5⟩ : ∃ x, x = p4.world := ⟨_, rfl⟩
  have hB5 : Below w.heap.size w w5 := by rw [hW5]; exact below_then hB4 p4.h
  have hw5 : LaidOp w5 := by rw [hW5]; exact hw4.below p4.h
  have M5 := M4.below p4.h
  rw [← hW5] at M5
  rw [← hW5]
  clear hW5
  clear p4
  have c5_0_0 := Mem.cell (v := .int .i64 c) M5.1 0 rfl
  have c5_0_1 := Mem.cell (v := .int .i64 a) M5.1 1 rfl
  have z5_0 := Mem.lt M5.1
  have c5_1_0 := Mem.cell (v := .int .i64 c) M5.2.1 0 rfl
  have c5_1_1 := Mem.cell (v := .int .i64 a) M5.2.1 1 rfl
  have z5_1 := Mem.lt M5.2.1
  go_wp2_with fail
  refine Calls.named ?_
  intro W6 hW6
  have hB6_ : Below w.heap.size w W6 := by rw [hW6]; exact hB5
  have hw6_ : LaidOp W6 := by rw [hW6]; exact hw5
  have M6_ := M5
  rw [← hW6] at M6_
  clear hW6
  clear c5_0_0 c5_0_1 z5_0 c5_1_0 c5_1_1 z5_1
  refine (oget_t _ _ _ hsz hw6_).mono ?_
  rw [B1.out, (osome _ _ _).1, (osome _ _ _).2.1, (osome _ _ _).2.2.1, (osome _ _ _).2.2.2]
  rintro e w6 ⟨rfl, hb6⟩
  have hB6 := below_then hB6_ hb6
  have hw6 := hw6_.below hb6
  have M6 := M6_.below hb6
  clear M6_ hB6_ hb6 hw6_
  have c6_0_0 := Mem.cell (v := .int .i64 c) M6.1 0 rfl
  have c6_0_1 := Mem.cell (v := .int .i64 a) M6.1 1 rfl
  have z6_0 := Mem.lt M6.1
  have c6_1_0 := Mem.cell (v := .int .i64 c) M6.2.1 0 rfl
  have c6_1_1 := Mem.cell (v := .int .i64 a) M6.2.1 1 rfl
  have z6_1 := Mem.lt M6.2.1
  go_wp2_with fail
  refine Calls.named ?_
  intro W7 hW7
  have hB7_ : Below w.heap.size w W7 := by rw [hW7]; exact (below_al hB6 _)
  have hw7_ : LaidOp W7 := by rw [hW7]; exact (hw6.alloc _)
  have M7_ := (M6).new' (w6.heap.size) (by rfl) (.cells #[.int .i64 c, .int .i64 a] 23)
  rw [← hW7] at M7_
  clear hW7
  clear c6_0_0 c6_0_1 z6_0 c6_1_0 c6_1_1 z6_1
  refine (oget_t _ _ _ hsz hw7_).mono ?_
  rw [B2.out, (osome _ _ _).1, (osome _ _ _).2.1, (osome _ _ _).2.2.1, (osome _ _ _).2.2.2]
  rintro e w7 ⟨rfl, hb7⟩
  have hB7 := below_then hB7_ hb7
  have hw7 := hw7_.below hb7
  have M7 := M7_.below hb7
  clear M7_ hB7_ hb7 hw7_
  have c7_0_0 := Mem.cell (v := .int .i64 c) M7.1 0 rfl
  have c7_0_1 := Mem.cell (v := .int .i64 a) M7.1 1 rfl
  have z7_0 := Mem.lt M7.1
  have c7_1_0 := Mem.cell (v := .int .i64 c) M7.2.1 0 rfl
  have c7_1_1 := Mem.cell (v := .int .i64 a) M7.2.1 1 rfl
  have z7_1 := Mem.lt M7.2.1
  have c7_2_0 := Mem.cell (v := .int .i64 c) M7.2.2.1 0 rfl
  have c7_2_1 := Mem.cell (v := .int .i64 a) M7.2.2.1 1 rfl
  have z7_2 := Mem.lt M7.2.2.1
  go_wp2_with fail
  refine Calls.named ?_
  intro W8 hW8
  have hB8_ : Below w.heap.size w W8 := by rw [hW8]; exact (below_al hB7 _)
  have hw8_ : LaidOp W8 := by rw [hW8]; exact (hw7.alloc _)
  have M8_ := (M7).new' (w7.heap.size) (by rfl) (.cells #[.int .i64 c, .int .i64 a] 23)
  rw [← hW8] at M8_
  clear hW8
  clear c7_0_0 c7_0_1 z7_0 c7_1_0 c7_1_1 z7_1 c7_2_0 c7_2_1 z7_2
  refine (text_op _ _ _ hw8_).mono ?_
  rintro e w8 ⟨rfl, hb8⟩
  have hB8 := below_then hB8_ hb8
  have hw8 := hw8_.below hb8
  have M8 := M8_.below hb8
  clear M8_ hB8_ hb8 hw8_
  have c8_0_0 := Mem.cell (v := .int .i64 c) M8.1 0 rfl
  have c8_0_1 := Mem.cell (v := .int .i64 a) M8.1 1 rfl
  have z8_0 := Mem.lt M8.1
  have c8_1_0 := Mem.cell (v := .int .i64 c) M8.2.1 0 rfl
  have c8_1_1 := Mem.cell (v := .int .i64 a) M8.2.1 1 rfl
  have z8_1 := Mem.lt M8.2.1
  have c8_2_0 := Mem.cell (v := .int .i64 c) M8.2.2.1 0 rfl
  have c8_2_1 := Mem.cell (v := .int .i64 a) M8.2.2.1 1 rfl
  have z8_2 := Mem.lt M8.2.2.1
  have c8_3_0 := Mem.cell (v := .int .i64 c) M8.2.2.2.1 0 rfl
  have c8_3_1 := Mem.cell (v := .int .i64 a) M8.2.2.2.1 1 rfl
  have z8_3 := Mem.lt M8.2.2.2.1
  go_wp2_with fail
  refine Calls.named ?_
  intro W9 hW9
  have hB9_ : Below w.heap.size w W9 := by rw [hW9]; exact hB8
  have hw9_ : LaidOp W9 := by rw [hW9]; exact hw8
  have M9_ := M8
  rw [← hW9] at M9_
  clear hW9
  clear c8_0_0 c8_0_1 z8_0 c8_1_0 c8_1_1 z8_1 c8_2_0 c8_2_1 z8_2 c8_3_0 c8_3_1 z8_3
  refine (oparse_t ⟨(opText c a).toArray⟩ _ (by simp [ByteArray.size]; omega) hw9_).mono ?_
  rw [P1.out, (qsome _ _).1, (qsome _ _).2.1, (qsome _ _).2.2]
  rintro e w9 ⟨rfl, hb9⟩
  have hB9 := below_then hB9_ hb9
  have hw9 := hw9_.below hb9
  have M9 := M9_.below hb9
  clear M9_ hB9_ hb9 hw9_
  have c9_0_0 := Mem.cell (v := .int .i64 c) M9.1 0 rfl
  have c9_0_1 := Mem.cell (v := .int .i64 a) M9.1 1 rfl
  have z9_0 := Mem.lt M9.1
  have c9_1_0 := Mem.cell (v := .int .i64 c) M9.2.1 0 rfl
  have c9_1_1 := Mem.cell (v := .int .i64 a) M9.2.1 1 rfl
  have z9_1 := Mem.lt M9.2.1
  have c9_2_0 := Mem.cell (v := .int .i64 c) M9.2.2.1 0 rfl
  have c9_2_1 := Mem.cell (v := .int .i64 a) M9.2.2.1 1 rfl
  have z9_2 := Mem.lt M9.2.2.1
  have c9_3_0 := Mem.cell (v := .int .i64 c) M9.2.2.2.1 0 rfl
  have c9_3_1 := Mem.cell (v := .int .i64 a) M9.2.2.2.1 1 rfl
  have z9_3 := Mem.lt M9.2.2.2.1
  go_upto_region 10 with (fail)
  refine wp_named ?_
  intro w10 hW10
  have hB10 : Below w.heap.size w w10 := by rw [hW10]; exact (below_al hB9 _)
  have hw10 : LaidOp w10 := by rw [hW10]; exact (hw9.alloc _)
  have M10 := (M9).new' (w9.heap.size) (by rfl) (.cells #[.int .i64 c, .int .i64 a] 23)
  rw [← hW10] at M10
  clear c9_0_0 c9_0_1 z9_0 c9_1_0 c9_1_1 z9_1 c9_2_0 c9_2_1 z9_2 c9_3_0 c9_3_1 z9_3
  clear hW10
  have c10_0_0 := Mem.cell (v := .int .i64 c) M10.1 0 rfl
  have c10_0_1 := Mem.cell (v := .int .i64 a) M10.1 1 rfl
  have z10_0 := Mem.lt M10.1
  have c10_1_0 := Mem.cell (v := .int .i64 c) M10.2.1 0 rfl
  have c10_1_1 := Mem.cell (v := .int .i64 a) M10.2.1 1 rfl
  have z10_1 := Mem.lt M10.2.1
  have c10_2_0 := Mem.cell (v := .int .i64 c) M10.2.2.1 0 rfl
  have c10_2_1 := Mem.cell (v := .int .i64 a) M10.2.2.1 1 rfl
  have z10_2 := Mem.lt M10.2.2.1
  have c10_3_0 := Mem.cell (v := .int .i64 c) M10.2.2.2.1 0 rfl
  have c10_3_1 := Mem.cell (v := .int .i64 a) M10.2.2.2.1 1 rfl
  have z10_3 := Mem.lt M10.2.2.2.1
  have c10_4_0 := Mem.cell (v := .int .i64 c) M10.2.2.2.2.1 0 rfl
  have c10_4_1 := Mem.cell (v := .int .i64 a) M10.2.2.2.2.1 1 rfl
  have z10_4 := Mem.lt M10.2.2.2.2.1
  have p10_0_0 := fun p : After w10 => Mem.cell (v := .int .i64 c) (Mem.after M10 p).1 0 rfl
  have p10_0_1 := fun p : After w10 => Mem.cell (v := .int .i64 a) (Mem.after M10 p).1 1 rfl
  have p10_1_0 := fun p : After w10 => Mem.cell (v := .int .i64 c) (Mem.after M10 p).2.1 0 rfl
  have p10_1_1 := fun p : After w10 => Mem.cell (v := .int .i64 a) (Mem.after M10 p).2.1 1 rfl
  have p10_2_0 := fun p : After w10 => Mem.cell (v := .int .i64 c) (Mem.after M10 p).2.2.1 0 rfl
  have p10_2_1 := fun p : After w10 => Mem.cell (v := .int .i64 a) (Mem.after M10 p).2.2.1 1 rfl
  have p10_3_0 := fun p : After w10 => Mem.cell (v := .int .i64 c) (Mem.after M10 p).2.2.2.1 0 rfl
  have p10_3_1 := fun p : After w10 => Mem.cell (v := .int .i64 a) (Mem.after M10 p).2.2.2.1 1 rfl
  have p10_4_0 := fun p : After w10 => Mem.cell (v := .int .i64 c) (Mem.after M10 p).2.2.2.2.1 0 rfl
  have p10_4_1 := fun p : After w10 => Mem.cell (v := .int .i64 a) (Mem.after M10 p).2.2.2.2.1 1 rfl
  refine wp_region_after (by kernel_rfl) (by kernel_rfl) ?_
  repeat (go_big_quiet_step ((first | (go_at_call 10; with_reducible exact After.call (put_op _ _ _ (LaidOp.after hw10 _))) | (go_at_call 11; with_reducible exact After.call (text_op _ _ _ (LaidOp.after hw10 _))))))
  refine wpQuiet_nil ?_
  rintro _ ⟨p10, rfl⟩
  clear p10_0_0 p10_0_1 p10_1_0 p10_1_1 p10_2_0 p10_2_1 p10_3_0 p10_3_1 p10_4_0 p10_4_1
  clear c10_0_0 c10_0_1 z10_0 c10_1_0 c10_1_1 z10_1 c10_2_0 c10_2_1 z10_2 c10_3_0 c10_3_1 z10_3 c10_4_0 c10_4_1 z10_4
  obtain ⟨w11, hW11⟩ : ∃ x, x = p10.world := ⟨_, rfl⟩
  have hB11 : Below w.heap.size w w11 := by rw [hW11]; exact below_then hB10 p10.h
  have hw11 : LaidOp w11 := by rw [hW11]; exact hw10.below p10.h
  have M11 := M10.below p10.h
  rw [← hW11] at M11
  rw [← hW11]
  clear hW11
  clear p10
  have c11_0_0 := Mem.cell (v := .int .i64 c) M11.1 0 rfl
  have c11_0_1 := Mem.cell (v := .int .i64 a) M11.1 1 rfl
  have z11_0 := Mem.lt M11.1
  have c11_1_0 := Mem.cell (v := .int .i64 c) M11.2.1 0 rfl
  have c11_1_1 := Mem.cell (v := .int .i64 a) M11.2.1 1 rfl
  have z11_1 := Mem.lt M11.2.1
  have c11_2_0 := Mem.cell (v := .int .i64 c) M11.2.2.1 0 rfl
  have c11_2_1 := Mem.cell (v := .int .i64 a) M11.2.2.1 1 rfl
  have z11_2 := Mem.lt M11.2.2.1
  have c11_3_0 := Mem.cell (v := .int .i64 c) M11.2.2.2.1 0 rfl
  have c11_3_1 := Mem.cell (v := .int .i64 a) M11.2.2.2.1 1 rfl
  have z11_3 := Mem.lt M11.2.2.2.1
  have c11_4_0 := Mem.cell (v := .int .i64 c) M11.2.2.2.2.1 0 rfl
  have c11_4_1 := Mem.cell (v := .int .i64 a) M11.2.2.2.2.1 1 rfl
  have z11_4 := Mem.lt M11.2.2.2.2.1
  go_wp2_with fail
  go_ret
  exact ⟨rfl, hB11⟩
set_option maxHeartbeats 2000000 in
theorem back_arg (c a b : Int) (ahead behind : ByteArray) (hx : ahead.size ≤ 140737488351232) (hy : behind.size ≤ 140737488351232) (w : World) (hw : LaidOp w)
    (hr : rightB c a = true) (ht : rightB c b = true) (q1 : (opPut c a == opPut c b) = false) (q2 : (opText c a == opText c b) = false) (q3 : (a == b) = false) :
    Calls Tryd.prog 3 #[.agg #[.int .i64 c, .int .i64 a], .agg #[.int .i64 c, .int .i64 b], .string ahead, .string behind] w fun e w' => e = .returned (.bool true) ∧ Below w.heap.size w w' := by
  have l1 := opPut_le c a
  have l2 := opPut_le c b
  have l3 := (opText_length hr).1
  have B1 := Lib.hid (back1 c a c b hr ahead behind)
  have B2 := Lib.hid (back2 c a c b ht ahead behind)
  have P1 : Hid (opParse (⟨(opText c a).toArray⟩ : ByteArray).data.toList = some (c, a)) := Lib.hid (by simpa using opParse_text hr)
  have hsz : (ahead ++ ⟨(opPut c a).toArray⟩ ++ ⟨(opPut c b).toArray⟩ ++ behind).size ≤ 9223372036854775807 := by rw [app_size]; omega
  have HR := Lib.hid hr
  have HT := Lib.hid ht
  clear hr ht
  go_enter Tryd.func3, Tryd.ntmps3
  have hB0 := Below.refl w.heap.size w
  have M0 := Mem.nil w
  go_wp2_with fail
  refine Calls.named ?_
  intro W1 hW1
  have hB1_ : Below w.heap.size w W1 := by rw [hW1]; exact (below_al (below_al hB0 _) _)
  have hw1_ : LaidOp W1 := by rw [hW1]; exact ((hw.alloc _).alloc _)
  have M1_ := ((M0).new' (w.heap.size) (by rfl) (.cells #[.int .i64 c, .int .i64 a] 23)).new' (w.heap.size + 1) (by simp) (.cells #[.int .i64 c, .int .i64 b] 23)
  rw [← hW1] at M1_
  clear hW1
  refine (oexamples_any _ hw1_).mono ?_
  rintro e w1 ⟨rfl, hb1⟩
  have hB1 := below_then hB1_ hb1
  have hw1 := hw1_.below hb1
  have M1 := M1_.below hb1
  clear M1_ hB1_ hb1 hw1_
  have c1_0_0 := Mem.cell (v := .int .i64 c) M1.1 0 rfl
  have c1_0_1 := Mem.cell (v := .int .i64 b) M1.1 1 rfl
  have z1_0 := Mem.lt M1.1
  have c1_1_0 := Mem.cell (v := .int .i64 c) M1.2.1 0 rfl
  have c1_1_1 := Mem.cell (v := .int .i64 a) M1.2.1 1 rfl
  have z1_1 := Mem.lt M1.2.1
  go_wp2_with fail
  refine Calls.named ?_
  intro W2 hW2
  have hB2_ : Below w.heap.size w W2 := by rw [hW2]; exact hB1
  have hw2_ : LaidOp W2 := by rw [hW2]; exact hw1
  have M2_ := M1
  rw [← hW2] at M2_
  clear hW2
  clear c1_0_0 c1_0_1 z1_0 c1_1_0 c1_1_1 z1_1
  refine (right_any _ _ _ hw2_).mono ?_
  rw [HR.out]
  rintro e w2 ⟨rfl, hb2⟩
  have hB2 := below_then hB2_ hb2
  have hw2 := hw2_.below hb2
  have M2 := M2_.below hb2
  clear M2_ hB2_ hb2 hw2_
  have c2_0_0 := Mem.cell (v := .int .i64 c) M2.1 0 rfl
  have c2_0_1 := Mem.cell (v := .int .i64 b) M2.1 1 rfl
  have z2_0 := Mem.lt M2.1
  have c2_1_0 := Mem.cell (v := .int .i64 c) M2.2.1 0 rfl
  have c2_1_1 := Mem.cell (v := .int .i64 a) M2.2.1 1 rfl
  have z2_1 := Mem.lt M2.2.1
  go_wp2_with fail
  refine Calls.named ?_
  intro W3 hW3
  have hB3_ : Below w.heap.size w W3 := by rw [hW3]; exact hB2
  have hw3_ : LaidOp W3 := by rw [hW3]; exact hw2
  have M3_ := M2
  rw [← hW3] at M3_
  clear hW3
  clear c2_0_0 c2_0_1 z2_0 c2_1_0 c2_1_1 z2_1
  refine (right_any _ _ _ hw3_).mono ?_
  rw [HT.out]
  rintro e w3 ⟨rfl, hb3⟩
  have hB3 := below_then hB3_ hb3
  have hw3 := hw3_.below hb3
  have M3 := M3_.below hb3
  clear M3_ hB3_ hb3 hw3_
  have c3_0_0 := Mem.cell (v := .int .i64 c) M3.1 0 rfl
  have c3_0_1 := Mem.cell (v := .int .i64 b) M3.1 1 rfl
  have z3_0 := Mem.lt M3.1
  have c3_1_0 := Mem.cell (v := .int .i64 c) M3.2.1 0 rfl
  have c3_1_1 := Mem.cell (v := .int .i64 a) M3.2.1 1 rfl
  have z3_1 := Mem.lt M3.2.1
  go_upto_region 6 with (fail)
  refine wp_named ?_
  intro w4 hW4
  have hB4 : Below w.heap.size w w4 := by rw [hW4]; exact hB3
  have hw4 : LaidOp w4 := by rw [hW4]; exact hw3
  have M4 := M3
  rw [← hW4] at M4
  clear c3_0_0 c3_0_1 z3_0 c3_1_0 c3_1_1 z3_1
  clear hW4
  have c4_0_0 := Mem.cell (v := .int .i64 c) M4.1 0 rfl
  have c4_0_1 := Mem.cell (v := .int .i64 b) M4.1 1 rfl
  have z4_0 := Mem.lt M4.1
  have c4_1_0 := Mem.cell (v := .int .i64 c) M4.2.1 0 rfl
  have c4_1_1 := Mem.cell (v := .int .i64 a) M4.2.1 1 rfl
  have z4_1 := Mem.lt M4.2.1
  have p4_0_0 := fun p : After w4 => Mem.cell (v := .int .i64 c) (Mem.after M4 p).1 0 rfl
  have p4_0_1 := fun p : After w4 => Mem.cell (v := .int .i64 b) (Mem.after M4 p).1 1 rfl
  have p4_1_0 := fun p : After w4 => Mem.cell (v := .int .i64 c) (Mem.after M4 p).2.1 0 rfl
  have p4_1_1 := fun p : After w4 => Mem.cell (v := .int .i64 a) (Mem.after M4 p).2.1 1 rfl
  refine wp_region_after (by kernel_rfl) (by kernel_rfl) ?_
  repeat (go_big_quiet_step ((go_at_call 10; with_reducible exact After.call (put_op _ _ _ (LaidOp.after hw4 _)))))
  refine wpQuiet_nil ?_
  rintro _ ⟨p4, rfl⟩
  clear p4_0_0 p4_0_1 p4_1_0 p4_1_1
  clear c4_0_0 c4_0_1 z4_0 c4_1_0 c4_1_1 z4_1
  obtain ⟨w5, hW5⟩ : ∃ x, x = p4.world := ⟨_, rfl⟩
  have hB5 : Below w.heap.size w w5 := by rw [hW5]; exact below_then hB4 p4.h
  have hw5 : LaidOp w5 := by rw [hW5]; exact hw4.below p4.h
  have M5 := M4.below p4.h
  rw [← hW5] at M5
  rw [← hW5]
  clear hW5
  clear p4
  have c5_0_0 := Mem.cell (v := .int .i64 c) M5.1 0 rfl
  have c5_0_1 := Mem.cell (v := .int .i64 b) M5.1 1 rfl
  have z5_0 := Mem.lt M5.1
  have c5_1_0 := Mem.cell (v := .int .i64 c) M5.2.1 0 rfl
  have c5_1_1 := Mem.cell (v := .int .i64 a) M5.2.1 1 rfl
  have z5_1 := Mem.lt M5.2.1
  go_wp2_with fail
  refine Calls.named ?_
  intro W6 hW6
  have hB6_ : Below w.heap.size w W6 := by rw [hW6]; exact hB5
  have hw6_ : LaidOp W6 := by rw [hW6]; exact hw5
  have M6_ := M5
  rw [← hW6] at M6_
  clear hW6
  clear c5_0_0 c5_0_1 z5_0 c5_1_0 c5_1_1 z5_1
  refine (oget_t _ _ _ hsz hw6_).mono ?_
  rw [B1.out, (osome _ _ _).1, (osome _ _ _).2.1, (osome _ _ _).2.2.1, (osome _ _ _).2.2.2]
  rintro e w6 ⟨rfl, hb6⟩
  have hB6 := below_then hB6_ hb6
  have hw6 := hw6_.below hb6
  have M6 := M6_.below hb6
  clear M6_ hB6_ hb6 hw6_
  have c6_0_0 := Mem.cell (v := .int .i64 c) M6.1 0 rfl
  have c6_0_1 := Mem.cell (v := .int .i64 b) M6.1 1 rfl
  have z6_0 := Mem.lt M6.1
  have c6_1_0 := Mem.cell (v := .int .i64 c) M6.2.1 0 rfl
  have c6_1_1 := Mem.cell (v := .int .i64 a) M6.2.1 1 rfl
  have z6_1 := Mem.lt M6.2.1
  go_wp2_with fail
  refine Calls.named ?_
  intro W7 hW7
  have hB7_ : Below w.heap.size w W7 := by rw [hW7]; exact (below_al hB6 _)
  have hw7_ : LaidOp W7 := by rw [hW7]; exact (hw6.alloc _)
  have M7_ := (M6).new' (w6.heap.size) (by rfl) (.cells #[.int .i64 c, .int .i64 a] 23)
  rw [← hW7] at M7_
  clear hW7
  clear c6_0_0 c6_0_1 z6_0 c6_1_0 c6_1_1 z6_1
  refine (oget_t _ _ _ hsz hw7_).mono ?_
  rw [B2.out, (osome _ _ _).1, (osome _ _ _).2.1, (osome _ _ _).2.2.1, (osome _ _ _).2.2.2]
  rintro e w7 ⟨rfl, hb7⟩
  have hB7 := below_then hB7_ hb7
  have hw7 := hw7_.below hb7
  have M7 := M7_.below hb7
  clear M7_ hB7_ hb7 hw7_
  have c7_0_0 := Mem.cell (v := .int .i64 c) M7.1 0 rfl
  have c7_0_1 := Mem.cell (v := .int .i64 a) M7.1 1 rfl
  have z7_0 := Mem.lt M7.1
  have c7_1_0 := Mem.cell (v := .int .i64 c) M7.2.1 0 rfl
  have c7_1_1 := Mem.cell (v := .int .i64 b) M7.2.1 1 rfl
  have z7_1 := Mem.lt M7.2.1
  have c7_2_0 := Mem.cell (v := .int .i64 c) M7.2.2.1 0 rfl
  have c7_2_1 := Mem.cell (v := .int .i64 a) M7.2.2.1 1 rfl
  have z7_2 := Mem.lt M7.2.2.1
  go_wp2_with fail
  refine Calls.named ?_
  intro W8 hW8
  have hB8_ : Below w.heap.size w W8 := by rw [hW8]; exact (below_al hB7 _)
  have hw8_ : LaidOp W8 := by rw [hW8]; exact (hw7.alloc _)
  have M8_ := (M7).new' (w7.heap.size) (by rfl) (.cells #[.int .i64 c, .int .i64 b] 23)
  rw [← hW8] at M8_
  clear hW8
  clear c7_0_0 c7_0_1 z7_0 c7_1_0 c7_1_1 z7_1 c7_2_0 c7_2_1 z7_2
  refine (text_op _ _ _ hw8_).mono ?_
  rintro e w8 ⟨rfl, hb8⟩
  have hB8 := below_then hB8_ hb8
  have hw8 := hw8_.below hb8
  have M8 := M8_.below hb8
  clear M8_ hB8_ hb8 hw8_
  have c8_0_0 := Mem.cell (v := .int .i64 c) M8.1 0 rfl
  have c8_0_1 := Mem.cell (v := .int .i64 b) M8.1 1 rfl
  have z8_0 := Mem.lt M8.1
  have c8_1_0 := Mem.cell (v := .int .i64 c) M8.2.1 0 rfl
  have c8_1_1 := Mem.cell (v := .int .i64 a) M8.2.1 1 rfl
  have z8_1 := Mem.lt M8.2.1
  have c8_2_0 := Mem.cell (v := .int .i64 c) M8.2.2.1 0 rfl
  have c8_2_1 := Mem.cell (v := .int .i64 b) M8.2.2.1 1 rfl
  have z8_2 := Mem.lt M8.2.2.1
  have c8_3_0 := Mem.cell (v := .int .i64 c) M8.2.2.2.1 0 rfl
  have c8_3_1 := Mem.cell (v := .int .i64 a) M8.2.2.2.1 1 rfl
  have z8_3 := Mem.lt M8.2.2.2.1
  go_wp2_with fail
  refine Calls.named ?_
  intro W9 hW9
  have hB9_ : Below w.heap.size w W9 := by rw [hW9]; exact hB8
  have hw9_ : LaidOp W9 := by rw [hW9]; exact hw8
  have M9_ := M8
  rw [← hW9] at M9_
  clear hW9
  clear c8_0_0 c8_0_1 z8_0 c8_1_0 c8_1_1 z8_1 c8_2_0 c8_2_1 z8_2 c8_3_0 c8_3_1 z8_3
  refine (oparse_t ⟨(opText c a).toArray⟩ _ (by simp [ByteArray.size]; omega) hw9_).mono ?_
  rw [P1.out, (qsome _ _).1, (qsome _ _).2.1, (qsome _ _).2.2]
  rintro e w9 ⟨rfl, hb9⟩
  have hB9 := below_then hB9_ hb9
  have hw9 := hw9_.below hb9
  have M9 := M9_.below hb9
  clear M9_ hB9_ hb9 hw9_
  have c9_0_0 := Mem.cell (v := .int .i64 c) M9.1 0 rfl
  have c9_0_1 := Mem.cell (v := .int .i64 b) M9.1 1 rfl
  have z9_0 := Mem.lt M9.1
  have c9_1_0 := Mem.cell (v := .int .i64 c) M9.2.1 0 rfl
  have c9_1_1 := Mem.cell (v := .int .i64 a) M9.2.1 1 rfl
  have z9_1 := Mem.lt M9.2.1
  have c9_2_0 := Mem.cell (v := .int .i64 c) M9.2.2.1 0 rfl
  have c9_2_1 := Mem.cell (v := .int .i64 b) M9.2.2.1 1 rfl
  have z9_2 := Mem.lt M9.2.2.1
  have c9_3_0 := Mem.cell (v := .int .i64 c) M9.2.2.2.1 0 rfl
  have c9_3_1 := Mem.cell (v := .int .i64 a) M9.2.2.2.1 1 rfl
  have z9_3 := Mem.lt M9.2.2.2.1
  go_upto_region 10 with (fail)
  refine wp_named ?_
  intro w10 hW10
  have hB10 : Below w.heap.size w w10 := by rw [hW10]; exact (below_al hB9 _)
  have hw10 : LaidOp w10 := by rw [hW10]; exact (hw9.alloc _)
  have M10 := (M9).new' (w9.heap.size) (by rfl) (.cells #[.int .i64 c, .int .i64 a] 23)
  rw [← hW10] at M10
  clear c9_0_0 c9_0_1 z9_0 c9_1_0 c9_1_1 z9_1 c9_2_0 c9_2_1 z9_2 c9_3_0 c9_3_1 z9_3
  clear hW10
  have c10_0_0 := Mem.cell (v := .int .i64 c) M10.1 0 rfl
  have c10_0_1 := Mem.cell (v := .int .i64 a) M10.1 1 rfl
  have z10_0 := Mem.lt M10.1
  have c10_1_0 := Mem.cell (v := .int .i64 c) M10.2.1 0 rfl
  have c10_1_1 := Mem.cell (v := .int .i64 b) M10.2.1 1 rfl
  have z10_1 := Mem.lt M10.2.1
  have c10_2_0 := Mem.cell (v := .int .i64 c) M10.2.2.1 0 rfl
  have c10_2_1 := Mem.cell (v := .int .i64 a) M10.2.2.1 1 rfl
  have z10_2 := Mem.lt M10.2.2.1
  have c10_3_0 := Mem.cell (v := .int .i64 c) M10.2.2.2.1 0 rfl
  have c10_3_1 := Mem.cell (v := .int .i64 b) M10.2.2.2.1 1 rfl
  have z10_3 := Mem.lt M10.2.2.2.1
  have c10_4_0 := Mem.cell (v := .int .i64 c) M10.2.2.2.2.1 0 rfl
  have c10_4_1 := Mem.cell (v := .int .i64 a) M10.2.2.2.2.1 1 rfl
  have z10_4 := Mem.lt M10.2.2.2.2.1
  have p10_0_0 := fun p : After w10 => Mem.cell (v := .int .i64 c) (Mem.after M10 p).1 0 rfl
  have p10_0_1 := fun p : After w10 => Mem.cell (v := .int .i64 a) (Mem.after M10 p).1 1 rfl
  have p10_1_0 := fun p : After w10 => Mem.cell (v := .int .i64 c) (Mem.after M10 p).2.1 0 rfl
  have p10_1_1 := fun p : After w10 => Mem.cell (v := .int .i64 b) (Mem.after M10 p).2.1 1 rfl
  have p10_2_0 := fun p : After w10 => Mem.cell (v := .int .i64 c) (Mem.after M10 p).2.2.1 0 rfl
  have p10_2_1 := fun p : After w10 => Mem.cell (v := .int .i64 a) (Mem.after M10 p).2.2.1 1 rfl
  have p10_3_0 := fun p : After w10 => Mem.cell (v := .int .i64 c) (Mem.after M10 p).2.2.2.1 0 rfl
  have p10_3_1 := fun p : After w10 => Mem.cell (v := .int .i64 b) (Mem.after M10 p).2.2.2.1 1 rfl
  have p10_4_0 := fun p : After w10 => Mem.cell (v := .int .i64 c) (Mem.after M10 p).2.2.2.2.1 0 rfl
  have p10_4_1 := fun p : After w10 => Mem.cell (v := .int .i64 a) (Mem.after M10 p).2.2.2.2.1 1 rfl
  refine wp_region_after (by kernel_rfl) (by kernel_rfl) ?_
  repeat (go_big_quiet_step ((first | (go_at_call 10; with_reducible exact After.call (put_op _ _ _ (LaidOp.after hw10 _))) | (go_at_call 11; with_reducible exact After.call (text_op _ _ _ (LaidOp.after hw10 _))))))
  refine wpQuiet_nil ?_
  rintro _ ⟨p10, rfl⟩
  clear p10_0_0 p10_0_1 p10_1_0 p10_1_1 p10_2_0 p10_2_1 p10_3_0 p10_3_1 p10_4_0 p10_4_1
  clear c10_0_0 c10_0_1 z10_0 c10_1_0 c10_1_1 z10_1 c10_2_0 c10_2_1 z10_2 c10_3_0 c10_3_1 z10_3 c10_4_0 c10_4_1 z10_4
  obtain ⟨w11, hW11⟩ : ∃ x, x = p10.world := ⟨_, rfl⟩
  have hB11 : Below w.heap.size w w11 := by rw [hW11]; exact below_then hB10 p10.h
  have hw11 : LaidOp w11 := by rw [hW11]; exact hw10.below p10.h
  have M11 := M10.below p10.h
  rw [← hW11] at M11
  rw [← hW11]
  clear hW11
  clear p10
  have c11_0_0 := Mem.cell (v := .int .i64 c) M11.1 0 rfl
  have c11_0_1 := Mem.cell (v := .int .i64 a) M11.1 1 rfl
  have z11_0 := Mem.lt M11.1
  have c11_1_0 := Mem.cell (v := .int .i64 c) M11.2.1 0 rfl
  have c11_1_1 := Mem.cell (v := .int .i64 b) M11.2.1 1 rfl
  have z11_1 := Mem.lt M11.2.1
  have c11_2_0 := Mem.cell (v := .int .i64 c) M11.2.2.1 0 rfl
  have c11_2_1 := Mem.cell (v := .int .i64 a) M11.2.2.1 1 rfl
  have z11_2 := Mem.lt M11.2.2.1
  have c11_3_0 := Mem.cell (v := .int .i64 c) M11.2.2.2.1 0 rfl
  have c11_3_1 := Mem.cell (v := .int .i64 b) M11.2.2.2.1 1 rfl
  have z11_3 := Mem.lt M11.2.2.2.1
  have c11_4_0 := Mem.cell (v := .int .i64 c) M11.2.2.2.2.1 0 rfl
  have c11_4_1 := Mem.cell (v := .int .i64 a) M11.2.2.2.2.1 1 rfl
  have z11_4 := Mem.lt M11.2.2.2.2.1
  go_wp2_with fail
  go_ret
  exact ⟨rfl, hB11⟩
set_option maxHeartbeats 2000000 in
theorem back_code (c a d b : Int) (ahead behind : ByteArray) (hx : ahead.size ≤ 140737488351232) (hy : behind.size ≤ 140737488351232) (w : World) (hw : LaidOp w)
    (hr : rightB c a = true) (ht : rightB d b = true) (q1 : (opPut c a == opPut d b) = false) (q2 : (opText c a == opText d b) = false) (q3 : (c == d) = false) :
    Calls Tryd.prog 3 #[.agg #[.int .i64 c, .int .i64 a], .agg #[.int .i64 d, .int .i64 b], .string ahead, .string behind] w fun e w' => e = .returned (.bool true) ∧ Below w.heap.size w w' := by
  have l1 := opPut_le c a
  have l2 := opPut_le d b
  have l3 := (opText_length hr).1
  have B1 := Lib.hid (back1 c a d b hr ahead behind)
  have B2 := Lib.hid (back2 c a d b ht ahead behind)
  have P1 : Hid (opParse (⟨(opText c a).toArray⟩ : ByteArray).data.toList = some (c, a)) := Lib.hid (by simpa using opParse_text hr)
  have hsz : (ahead ++ ⟨(opPut c a).toArray⟩ ++ ⟨(opPut d b).toArray⟩ ++ behind).size ≤ 9223372036854775807 := by rw [app_size]; omega
  have HR := Lib.hid hr
  have HT := Lib.hid ht
  clear hr ht
  go_enter Tryd.func3, Tryd.ntmps3
  have hB0 := Below.refl w.heap.size w
  have M0 := Mem.nil w
  go_wp2_with fail
  refine Calls.named ?_
  intro W1 hW1
  have hB1_ : Below w.heap.size w W1 := by rw [hW1]; exact (below_al (below_al hB0 _) _)
  have hw1_ : LaidOp W1 := by rw [hW1]; exact ((hw.alloc _).alloc _)
  have M1_ := ((M0).new' (w.heap.size) (by rfl) (.cells #[.int .i64 c, .int .i64 a] 23)).new' (w.heap.size + 1) (by simp) (.cells #[.int .i64 d, .int .i64 b] 23)
  rw [← hW1] at M1_
  clear hW1
  refine (oexamples_any _ hw1_).mono ?_
  rintro e w1 ⟨rfl, hb1⟩
  have hB1 := below_then hB1_ hb1
  have hw1 := hw1_.below hb1
  have M1 := M1_.below hb1
  clear M1_ hB1_ hb1 hw1_
  have c1_0_0 := Mem.cell (v := .int .i64 d) M1.1 0 rfl
  have c1_0_1 := Mem.cell (v := .int .i64 b) M1.1 1 rfl
  have z1_0 := Mem.lt M1.1
  have c1_1_0 := Mem.cell (v := .int .i64 c) M1.2.1 0 rfl
  have c1_1_1 := Mem.cell (v := .int .i64 a) M1.2.1 1 rfl
  have z1_1 := Mem.lt M1.2.1
  go_wp2_with fail
  refine Calls.named ?_
  intro W2 hW2
  have hB2_ : Below w.heap.size w W2 := by rw [hW2]; exact hB1
  have hw2_ : LaidOp W2 := by rw [hW2]; exact hw1
  have M2_ := M1
  rw [← hW2] at M2_
  clear hW2
  clear c1_0_0 c1_0_1 z1_0 c1_1_0 c1_1_1 z1_1
  refine (right_any _ _ _ hw2_).mono ?_
  rw [HR.out]
  rintro e w2 ⟨rfl, hb2⟩
  have hB2 := below_then hB2_ hb2
  have hw2 := hw2_.below hb2
  have M2 := M2_.below hb2
  clear M2_ hB2_ hb2 hw2_
  have c2_0_0 := Mem.cell (v := .int .i64 d) M2.1 0 rfl
  have c2_0_1 := Mem.cell (v := .int .i64 b) M2.1 1 rfl
  have z2_0 := Mem.lt M2.1
  have c2_1_0 := Mem.cell (v := .int .i64 c) M2.2.1 0 rfl
  have c2_1_1 := Mem.cell (v := .int .i64 a) M2.2.1 1 rfl
  have z2_1 := Mem.lt M2.2.1
  go_wp2_with fail
  refine Calls.named ?_
  intro W3 hW3
  have hB3_ : Below w.heap.size w W3 := by rw [hW3]; exact hB2
  have hw3_ : LaidOp W3 := by rw [hW3]; exact hw2
  have M3_ := M2
  rw [← hW3] at M3_
  clear hW3
  clear c2_0_0 c2_0_1 z2_0 c2_1_0 c2_1_1 z2_1
  refine (right_any _ _ _ hw3_).mono ?_
  rw [HT.out]
  rintro e w3 ⟨rfl, hb3⟩
  have hB3 := below_then hB3_ hb3
  have hw3 := hw3_.below hb3
  have M3 := M3_.below hb3
  clear M3_ hB3_ hb3 hw3_
  have c3_0_0 := Mem.cell (v := .int .i64 d) M3.1 0 rfl
  have c3_0_1 := Mem.cell (v := .int .i64 b) M3.1 1 rfl
  have z3_0 := Mem.lt M3.1
  have c3_1_0 := Mem.cell (v := .int .i64 c) M3.2.1 0 rfl
  have c3_1_1 := Mem.cell (v := .int .i64 a) M3.2.1 1 rfl
  have z3_1 := Mem.lt M3.2.1
  go_upto_region 6 with (fail)
  refine wp_named ?_
  intro w4 hW4
  have hB4 : Below w.heap.size w w4 := by rw [hW4]; exact hB3
  have hw4 : LaidOp w4 := by rw [hW4]; exact hw3
  have M4 := M3
  rw [← hW4] at M4
  clear c3_0_0 c3_0_1 z3_0 c3_1_0 c3_1_1 z3_1
  clear hW4
  have c4_0_0 := Mem.cell (v := .int .i64 d) M4.1 0 rfl
  have c4_0_1 := Mem.cell (v := .int .i64 b) M4.1 1 rfl
  have z4_0 := Mem.lt M4.1
  have c4_1_0 := Mem.cell (v := .int .i64 c) M4.2.1 0 rfl
  have c4_1_1 := Mem.cell (v := .int .i64 a) M4.2.1 1 rfl
  have z4_1 := Mem.lt M4.2.1
  have p4_0_0 := fun p : After w4 => Mem.cell (v := .int .i64 d) (Mem.after M4 p).1 0 rfl
  have p4_0_1 := fun p : After w4 => Mem.cell (v := .int .i64 b) (Mem.after M4 p).1 1 rfl
  have p4_1_0 := fun p : After w4 => Mem.cell (v := .int .i64 c) (Mem.after M4 p).2.1 0 rfl
  have p4_1_1 := fun p : After w4 => Mem.cell (v := .int .i64 a) (Mem.after M4 p).2.1 1 rfl
  refine wp_region_after (by kernel_rfl) (by kernel_rfl) ?_
  repeat (go_big_quiet_step ((go_at_call 10; with_reducible exact After.call (put_op _ _ _ (LaidOp.after hw4 _)))))
  refine wpQuiet_nil ?_
  rintro _ ⟨p4, rfl⟩
  clear p4_0_0 p4_0_1 p4_1_0 p4_1_1
  clear c4_0_0 c4_0_1 z4_0 c4_1_0 c4_1_1 z4_1
  obtain ⟨w5, hW5⟩ : ∃ x, x = p4.world := ⟨_, rfl⟩
  have hB5 : Below w.heap.size w w5 := by rw [hW5]; exact below_then hB4 p4.h
  have hw5 : LaidOp w5 := by rw [hW5]; exact hw4.below p4.h
  have M5 := M4.below p4.h
  rw [← hW5] at M5
  rw [← hW5]
  clear hW5
  clear p4
  have c5_0_0 := Mem.cell (v := .int .i64 d) M5.1 0 rfl
  have c5_0_1 := Mem.cell (v := .int .i64 b) M5.1 1 rfl
  have z5_0 := Mem.lt M5.1
  have c5_1_0 := Mem.cell (v := .int .i64 c) M5.2.1 0 rfl
  have c5_1_1 := Mem.cell (v := .int .i64 a) M5.2.1 1 rfl
  have z5_1 := Mem.lt M5.2.1
  go_wp2_with fail
  refine Calls.named ?_
  intro W6 hW6
  have hB6_ : Below w.heap.size w W6 := by rw [hW6]; exact hB5
  have hw6_ : LaidOp W6 := by rw [hW6]; exact hw5
  have M6_ := M5
  rw [← hW6] at M6_
  clear hW6
  clear c5_0_0 c5_0_1 z5_0 c5_1_0 c5_1_1 z5_1
  refine (oget_t _ _ _ hsz hw6_).mono ?_
  rw [B1.out, (osome _ _ _).1, (osome _ _ _).2.1, (osome _ _ _).2.2.1, (osome _ _ _).2.2.2]
  rintro e w6 ⟨rfl, hb6⟩
  have hB6 := below_then hB6_ hb6
  have hw6 := hw6_.below hb6
  have M6 := M6_.below hb6
  clear M6_ hB6_ hb6 hw6_
  have c6_0_0 := Mem.cell (v := .int .i64 d) M6.1 0 rfl
  have c6_0_1 := Mem.cell (v := .int .i64 b) M6.1 1 rfl
  have z6_0 := Mem.lt M6.1
  have c6_1_0 := Mem.cell (v := .int .i64 c) M6.2.1 0 rfl
  have c6_1_1 := Mem.cell (v := .int .i64 a) M6.2.1 1 rfl
  have z6_1 := Mem.lt M6.2.1
  go_wp2_with fail
  refine Calls.named ?_
  intro W7 hW7
  have hB7_ : Below w.heap.size w W7 := by rw [hW7]; exact (below_al hB6 _)
  have hw7_ : LaidOp W7 := by rw [hW7]; exact (hw6.alloc _)
  have M7_ := (M6).new' (w6.heap.size) (by rfl) (.cells #[.int .i64 c, .int .i64 a] 23)
  rw [← hW7] at M7_
  clear hW7
  clear c6_0_0 c6_0_1 z6_0 c6_1_0 c6_1_1 z6_1
  refine (oget_t _ _ _ hsz hw7_).mono ?_
  rw [B2.out, (osome _ _ _).1, (osome _ _ _).2.1, (osome _ _ _).2.2.1, (osome _ _ _).2.2.2]
  rintro e w7 ⟨rfl, hb7⟩
  have hB7 := below_then hB7_ hb7
  have hw7 := hw7_.below hb7
  have M7 := M7_.below hb7
  clear M7_ hB7_ hb7 hw7_
  have c7_0_0 := Mem.cell (v := .int .i64 c) M7.1 0 rfl
  have c7_0_1 := Mem.cell (v := .int .i64 a) M7.1 1 rfl
  have z7_0 := Mem.lt M7.1
  have c7_1_0 := Mem.cell (v := .int .i64 d) M7.2.1 0 rfl
  have c7_1_1 := Mem.cell (v := .int .i64 b) M7.2.1 1 rfl
  have z7_1 := Mem.lt M7.2.1
  have c7_2_0 := Mem.cell (v := .int .i64 c) M7.2.2.1 0 rfl
  have c7_2_1 := Mem.cell (v := .int .i64 a) M7.2.2.1 1 rfl
  have z7_2 := Mem.lt M7.2.2.1
  go_wp2_with fail
  refine Calls.named ?_
  intro W8 hW8
  have hB8_ : Below w.heap.size w W8 := by rw [hW8]; exact (below_al hB7 _)
  have hw8_ : LaidOp W8 := by rw [hW8]; exact (hw7.alloc _)
  have M8_ := (M7).new' (w7.heap.size) (by rfl) (.cells #[.int .i64 d, .int .i64 b] 23)
  rw [← hW8] at M8_
  clear hW8
  clear c7_0_0 c7_0_1 z7_0 c7_1_0 c7_1_1 z7_1 c7_2_0 c7_2_1 z7_2
  refine (text_op _ _ _ hw8_).mono ?_
  rintro e w8 ⟨rfl, hb8⟩
  have hB8 := below_then hB8_ hb8
  have hw8 := hw8_.below hb8
  have M8 := M8_.below hb8
  clear M8_ hB8_ hb8 hw8_
  have c8_0_0 := Mem.cell (v := .int .i64 d) M8.1 0 rfl
  have c8_0_1 := Mem.cell (v := .int .i64 b) M8.1 1 rfl
  have z8_0 := Mem.lt M8.1
  have c8_1_0 := Mem.cell (v := .int .i64 c) M8.2.1 0 rfl
  have c8_1_1 := Mem.cell (v := .int .i64 a) M8.2.1 1 rfl
  have z8_1 := Mem.lt M8.2.1
  have c8_2_0 := Mem.cell (v := .int .i64 d) M8.2.2.1 0 rfl
  have c8_2_1 := Mem.cell (v := .int .i64 b) M8.2.2.1 1 rfl
  have z8_2 := Mem.lt M8.2.2.1
  have c8_3_0 := Mem.cell (v := .int .i64 c) M8.2.2.2.1 0 rfl
  have c8_3_1 := Mem.cell (v := .int .i64 a) M8.2.2.2.1 1 rfl
  have z8_3 := Mem.lt M8.2.2.2.1
  go_wp2_with fail
  refine Calls.named ?_
  intro W9 hW9
  have hB9_ : Below w.heap.size w W9 := by rw [hW9]; exact hB8
  have hw9_ : LaidOp W9 := by rw [hW9]; exact hw8
  have M9_ := M8
  rw [← hW9] at M9_
  clear hW9
  clear c8_0_0 c8_0_1 z8_0 c8_1_0 c8_1_1 z8_1 c8_2_0 c8_2_1 z8_2 c8_3_0 c8_3_1 z8_3
  refine (oparse_t ⟨(opText c a).toArray⟩ _ (by simp [ByteArray.size]; omega) hw9_).mono ?_
  rw [P1.out, (qsome _ _).1, (qsome _ _).2.1, (qsome _ _).2.2]
  rintro e w9 ⟨rfl, hb9⟩
  have hB9 := below_then hB9_ hb9
  have hw9 := hw9_.below hb9
  have M9 := M9_.below hb9
  clear M9_ hB9_ hb9 hw9_
  have c9_0_0 := Mem.cell (v := .int .i64 d) M9.1 0 rfl
  have c9_0_1 := Mem.cell (v := .int .i64 b) M9.1 1 rfl
  have z9_0 := Mem.lt M9.1
  have c9_1_0 := Mem.cell (v := .int .i64 c) M9.2.1 0 rfl
  have c9_1_1 := Mem.cell (v := .int .i64 a) M9.2.1 1 rfl
  have z9_1 := Mem.lt M9.2.1
  have c9_2_0 := Mem.cell (v := .int .i64 d) M9.2.2.1 0 rfl
  have c9_2_1 := Mem.cell (v := .int .i64 b) M9.2.2.1 1 rfl
  have z9_2 := Mem.lt M9.2.2.1
  have c9_3_0 := Mem.cell (v := .int .i64 c) M9.2.2.2.1 0 rfl
  have c9_3_1 := Mem.cell (v := .int .i64 a) M9.2.2.2.1 1 rfl
  have z9_3 := Mem.lt M9.2.2.2.1
  go_upto_region 10 with (fail)
  refine wp_named ?_
  intro w10 hW10
  have hB10 : Below w.heap.size w w10 := by rw [hW10]; exact (below_al hB9 _)
  have hw10 : LaidOp w10 := by rw [hW10]; exact (hw9.alloc _)
  have M10 := (M9).new' (w9.heap.size) (by rfl) (.cells #[.int .i64 c, .int .i64 a] 23)
  rw [← hW10] at M10
  clear c9_0_0 c9_0_1 z9_0 c9_1_0 c9_1_1 z9_1 c9_2_0 c9_2_1 z9_2 c9_3_0 c9_3_1 z9_3
  clear hW10
  have c10_0_0 := Mem.cell (v := .int .i64 c) M10.1 0 rfl
  have c10_0_1 := Mem.cell (v := .int .i64 a) M10.1 1 rfl
  have z10_0 := Mem.lt M10.1
  have c10_1_0 := Mem.cell (v := .int .i64 d) M10.2.1 0 rfl
  have c10_1_1 := Mem.cell (v := .int .i64 b) M10.2.1 1 rfl
  have z10_1 := Mem.lt M10.2.1
  have c10_2_0 := Mem.cell (v := .int .i64 c) M10.2.2.1 0 rfl
  have c10_2_1 := Mem.cell (v := .int .i64 a) M10.2.2.1 1 rfl
  have z10_2 := Mem.lt M10.2.2.1
  have c10_3_0 := Mem.cell (v := .int .i64 d) M10.2.2.2.1 0 rfl
  have c10_3_1 := Mem.cell (v := .int .i64 b) M10.2.2.2.1 1 rfl
  have z10_3 := Mem.lt M10.2.2.2.1
  have c10_4_0 := Mem.cell (v := .int .i64 c) M10.2.2.2.2.1 0 rfl
  have c10_4_1 := Mem.cell (v := .int .i64 a) M10.2.2.2.2.1 1 rfl
  have z10_4 := Mem.lt M10.2.2.2.2.1
  have p10_0_0 := fun p : After w10 => Mem.cell (v := .int .i64 c) (Mem.after M10 p).1 0 rfl
  have p10_0_1 := fun p : After w10 => Mem.cell (v := .int .i64 a) (Mem.after M10 p).1 1 rfl
  have p10_1_0 := fun p : After w10 => Mem.cell (v := .int .i64 d) (Mem.after M10 p).2.1 0 rfl
  have p10_1_1 := fun p : After w10 => Mem.cell (v := .int .i64 b) (Mem.after M10 p).2.1 1 rfl
  have p10_2_0 := fun p : After w10 => Mem.cell (v := .int .i64 c) (Mem.after M10 p).2.2.1 0 rfl
  have p10_2_1 := fun p : After w10 => Mem.cell (v := .int .i64 a) (Mem.after M10 p).2.2.1 1 rfl
  have p10_3_0 := fun p : After w10 => Mem.cell (v := .int .i64 d) (Mem.after M10 p).2.2.2.1 0 rfl
  have p10_3_1 := fun p : After w10 => Mem.cell (v := .int .i64 b) (Mem.after M10 p).2.2.2.1 1 rfl
  have p10_4_0 := fun p : After w10 => Mem.cell (v := .int .i64 c) (Mem.after M10 p).2.2.2.2.1 0 rfl
  have p10_4_1 := fun p : After w10 => Mem.cell (v := .int .i64 a) (Mem.after M10 p).2.2.2.2.1 1 rfl
  refine wp_region_after (by kernel_rfl) (by kernel_rfl) ?_
  repeat (go_big_quiet_step ((first | (go_at_call 10; with_reducible exact After.call (put_op _ _ _ (LaidOp.after hw10 _))) | (go_at_call 11; with_reducible exact After.call (text_op _ _ _ (LaidOp.after hw10 _))))))
  refine wpQuiet_nil ?_
  rintro _ ⟨p10, rfl⟩
  clear p10_0_0 p10_0_1 p10_1_0 p10_1_1 p10_2_0 p10_2_1 p10_3_0 p10_3_1 p10_4_0 p10_4_1
  clear c10_0_0 c10_0_1 z10_0 c10_1_0 c10_1_1 z10_1 c10_2_0 c10_2_1 z10_2 c10_3_0 c10_3_1 z10_3 c10_4_0 c10_4_1 z10_4
  obtain ⟨w11, hW11⟩ : ∃ x, x = p10.world := ⟨_, rfl⟩
  have hB11 : Below w.heap.size w w11 := by rw [hW11]; exact below_then hB10 p10.h
  have hw11 : LaidOp w11 := by rw [hW11]; exact hw10.below p10.h
  have M11 := M10.below p10.h
  rw [← hW11] at M11
  rw [← hW11]
  clear hW11
  clear p10
  have c11_0_0 := Mem.cell (v := .int .i64 c) M11.1 0 rfl
  have c11_0_1 := Mem.cell (v := .int .i64 a) M11.1 1 rfl
  have z11_0 := Mem.lt M11.1
  have c11_1_0 := Mem.cell (v := .int .i64 d) M11.2.1 0 rfl
  have c11_1_1 := Mem.cell (v := .int .i64 b) M11.2.1 1 rfl
  have z11_1 := Mem.lt M11.2.1
  have c11_2_0 := Mem.cell (v := .int .i64 c) M11.2.2.1 0 rfl
  have c11_2_1 := Mem.cell (v := .int .i64 a) M11.2.2.1 1 rfl
  have z11_2 := Mem.lt M11.2.2.1
  have c11_3_0 := Mem.cell (v := .int .i64 d) M11.2.2.2.1 0 rfl
  have c11_3_1 := Mem.cell (v := .int .i64 b) M11.2.2.2.1 1 rfl
  have z11_3 := Mem.lt M11.2.2.2.1
  have c11_4_0 := Mem.cell (v := .int .i64 c) M11.2.2.2.2.1 0 rfl
  have c11_4_1 := Mem.cell (v := .int .i64 a) M11.2.2.2.2.1 1 rfl
  have z11_4 := Mem.lt M11.2.2.2.2.1
  go_wp2_with fail
  go_ret
  exact ⟨rfl, hB11⟩
set_option maxHeartbeats 1000000 in
theorem back_w1 (c a d b : Int) (ahead behind : ByteArray) (w : World) (hw : LaidOp w) (hr : rightB c a = false) :
    Calls Tryd.prog 3 #[.agg #[.int .i64 c, .int .i64 a], .agg #[.int .i64 d, .int .i64 b], .string ahead, .string behind] w fun e w' => e = .returned (.bool true) ∧ Below w.heap.size w w' := by
  have HR := Lib.hid hr
  have HP := Lib.hid (opPut_wrong hr)
  have HT : Hid (opText c a = [63]) := Lib.hid (by unfold opText; rw [hr]; rfl)
  clear hr
  go_enter Tryd.func3, Tryd.ntmps3
  have hB0 := Below.refl w.heap.size w
  have M0 := Mem.nil w
  go_wp2_with fail
  refine Calls.named ?_
  intro W1 hW1
  have hB1_ : Below w.heap.size w W1 := by rw [hW1]; exact (below_al (below_al hB0 _) _)
  have hw1_ : LaidOp W1 := by rw [hW1]; exact ((hw.alloc _).alloc _)
  have M1_ := ((M0).new' (w.heap.size) (by rfl) (.cells #[.int .i64 c, .int .i64 a] 23)).new' (w.heap.size + 1) (by simp) (.cells #[.int .i64 d, .int .i64 b] 23)
  rw [← hW1] at M1_
  clear hW1
  refine (oexamples_any _ hw1_).mono ?_
  rintro e w1 ⟨rfl, hb1⟩
  have hB1 := below_then hB1_ hb1
  have hw1 := hw1_.below hb1
  have M1 := M1_.below hb1
  clear M1_ hB1_ hb1 hw1_
  have c1_0_0 := Mem.cell (v := .int .i64 d) M1.1 0 rfl
  have c1_0_1 := Mem.cell (v := .int .i64 b) M1.1 1 rfl
  have z1_0 := Mem.lt M1.1
  have c1_1_0 := Mem.cell (v := .int .i64 c) M1.2.1 0 rfl
  have c1_1_1 := Mem.cell (v := .int .i64 a) M1.2.1 1 rfl
  have z1_1 := Mem.lt M1.2.1
  go_wp2_with fail
  refine Calls.named ?_
  intro W2 hW2
  have hB2_ : Below w.heap.size w W2 := by rw [hW2]; exact hB1
  have hw2_ : LaidOp W2 := by rw [hW2]; exact hw1
  have M2_ := M1
  rw [← hW2] at M2_
  clear hW2
  clear c1_0_0 c1_0_1 z1_0 c1_1_0 c1_1_1 z1_1
  refine (right_any _ _ _ hw2_).mono ?_
  rw [HR.out]
  rintro e w2 ⟨rfl, hb2⟩
  have hB2 := below_then hB2_ hb2
  have hw2 := hw2_.below hb2
  have M2 := M2_.below hb2
  clear M2_ hB2_ hb2 hw2_
  have c2_0_0 := Mem.cell (v := .int .i64 d) M2.1 0 rfl
  have c2_0_1 := Mem.cell (v := .int .i64 b) M2.1 1 rfl
  have z2_0 := Mem.lt M2.1
  have c2_1_0 := Mem.cell (v := .int .i64 c) M2.2.1 0 rfl
  have c2_1_1 := Mem.cell (v := .int .i64 a) M2.2.1 1 rfl
  have z2_1 := Mem.lt M2.2.1
  go_wp2_with fail
  refine Calls.named ?_
  intro W3 hW3
  have hB3_ : Below w.heap.size w W3 := by rw [hW3]; exact hB2
  have hw3_ : LaidOp W3 := by rw [hW3]; exact hw2
  have M3_ := M2
  rw [← hW3] at M3_
  clear hW3
  clear c2_0_0 c2_0_1 z2_0 c2_1_0 c2_1_1 z2_1
  refine (right_any _ _ _ hw3_).mono ?_
  rw [HR.out]
  rintro e w3 ⟨rfl, hb3⟩
  have hB3 := below_then hB3_ hb3
  have hw3 := hw3_.below hb3
  have M3 := M3_.below hb3
  clear M3_ hB3_ hb3 hw3_
  have c3_0_0 := Mem.cell (v := .int .i64 d) M3.1 0 rfl
  have c3_0_1 := Mem.cell (v := .int .i64 b) M3.1 1 rfl
  have z3_0 := Mem.lt M3.1
  have c3_1_0 := Mem.cell (v := .int .i64 c) M3.2.1 0 rfl
  have c3_1_1 := Mem.cell (v := .int .i64 a) M3.2.1 1 rfl
  have z3_1 := Mem.lt M3.2.1
  go_wp2_with fail
  refine Calls.named ?_
  intro W4 hW4
  have hB4_ : Below w.heap.size w W4 := by rw [hW4]; exact hB3
  have hw4_ : LaidOp W4 := by rw [hW4]; exact hw3
  have M4_ := M3
  rw [← hW4] at M4_
  clear hW4
  clear c3_0_0 c3_0_1 z3_0 c3_1_0 c3_1_1 z3_1
  refine (put_op _ _ _ hw4_).mono ?_
  rw [HP.out]
  rintro e w4 ⟨rfl, hb4⟩
  have hB4 := below_then hB4_ hb4
  have hw4 := hw4_.below hb4
  have M4 := M4_.below hb4
  clear M4_ hB4_ hb4 hw4_
  have c4_0_0 := Mem.cell (v := .int .i64 d) M4.1 0 rfl
  have c4_0_1 := Mem.cell (v := .int .i64 b) M4.1 1 rfl
  have z4_0 := Mem.lt M4.1
  have c4_1_0 := Mem.cell (v := .int .i64 c) M4.2.1 0 rfl
  have c4_1_1 := Mem.cell (v := .int .i64 a) M4.2.1 1 rfl
  have z4_1 := Mem.lt M4.2.1
  go_wp2_with fail
  refine Calls.named ?_
  intro W5 hW5
  have hB5_ : Below w.heap.size w W5 := by rw [hW5]; exact hB4
  have hw5_ : LaidOp W5 := by rw [hW5]; exact hw4
  have M5_ := M4
  rw [← hW5] at M5_
  clear hW5
  clear c4_0_0 c4_0_1 z4_0 c4_1_0 c4_1_1 z4_1
  refine (text_op _ _ _ hw5_).mono ?_
  rw [HT.out]
  rintro e w5 ⟨rfl, hb5⟩
  have hB5 := below_then hB5_ hb5
  have hw5 := hw5_.below hb5
  have M5 := M5_.below hb5
  clear M5_ hB5_ hb5 hw5_
  have c5_0_0 := Mem.cell (v := .int .i64 d) M5.1 0 rfl
  have c5_0_1 := Mem.cell (v := .int .i64 b) M5.1 1 rfl
  have z5_0 := Mem.lt M5.1
  have c5_1_0 := Mem.cell (v := .int .i64 c) M5.2.1 0 rfl
  have c5_1_1 := Mem.cell (v := .int .i64 a) M5.2.1 1 rfl
  have z5_1 := Mem.lt M5.2.1
  go_wp2_with fail
  go_ret
  exact ⟨rfl, hB5⟩
set_option maxHeartbeats 1000000 in
theorem back_w2 (c a d b : Int) (ahead behind : ByteArray) (w : World) (hw : LaidOp w) (hr : rightB c a = true) (ht : rightB d b = false) :
    Calls Tryd.prog 3 #[.agg #[.int .i64 c, .int .i64 a], .agg #[.int .i64 d, .int .i64 b], .string ahead, .string behind] w fun e w' => e = .returned (.bool true) ∧ Below w.heap.size w w' := by
  have HR := Lib.hid hr
  have HT := Lib.hid ht
  clear hr ht
  go_enter Tryd.func3, Tryd.ntmps3
  have hB0 := Below.refl w.heap.size w
  have M0 := Mem.nil w
  go_wp2_with fail
  refine Calls.named ?_
  intro W1 hW1
  have hB1_ : Below w.heap.size w W1 := by rw [hW1]; exact (below_al (below_al hB0 _) _)
  have hw1_ : LaidOp W1 := by rw [hW1]; exact ((hw.alloc _).alloc _)
  have M1_ := ((M0).new' (w.heap.size) (by rfl) (.cells #[.int .i64 c, .int .i64 a] 23)).new' (w.heap.size + 1) (by simp) (.cells #[.int .i64 d, .int .i64 b] 23)
  rw [← hW1] at M1_
  clear hW1
  refine (oexamples_any _ hw1_).mono ?_
  rintro e w1 ⟨rfl, hb1⟩
  have hB1 := below_then hB1_ hb1
  have hw1 := hw1_.below hb1
  have M1 := M1_.below hb1
  clear M1_ hB1_ hb1 hw1_
  have c1_0_0 := Mem.cell (v := .int .i64 d) M1.1 0 rfl
  have c1_0_1 := Mem.cell (v := .int .i64 b) M1.1 1 rfl
  have z1_0 := Mem.lt M1.1
  have c1_1_0 := Mem.cell (v := .int .i64 c) M1.2.1 0 rfl
  have c1_1_1 := Mem.cell (v := .int .i64 a) M1.2.1 1 rfl
  have z1_1 := Mem.lt M1.2.1
  go_wp2_with fail
  refine Calls.named ?_
  intro W2 hW2
  have hB2_ : Below w.heap.size w W2 := by rw [hW2]; exact hB1
  have hw2_ : LaidOp W2 := by rw [hW2]; exact hw1
  have M2_ := M1
  rw [← hW2] at M2_
  clear hW2
  clear c1_0_0 c1_0_1 z1_0 c1_1_0 c1_1_1 z1_1
  refine (right_any _ _ _ hw2_).mono ?_
  rw [HR.out]
  rintro e w2 ⟨rfl, hb2⟩
  have hB2 := below_then hB2_ hb2
  have hw2 := hw2_.below hb2
  have M2 := M2_.below hb2
  clear M2_ hB2_ hb2 hw2_
  have c2_0_0 := Mem.cell (v := .int .i64 d) M2.1 0 rfl
  have c2_0_1 := Mem.cell (v := .int .i64 b) M2.1 1 rfl
  have z2_0 := Mem.lt M2.1
  have c2_1_0 := Mem.cell (v := .int .i64 c) M2.2.1 0 rfl
  have c2_1_1 := Mem.cell (v := .int .i64 a) M2.2.1 1 rfl
  have z2_1 := Mem.lt M2.2.1
  go_wp2_with fail
  refine Calls.named ?_
  intro W3 hW3
  have hB3_ : Below w.heap.size w W3 := by rw [hW3]; exact hB2
  have hw3_ : LaidOp W3 := by rw [hW3]; exact hw2
  have M3_ := M2
  rw [← hW3] at M3_
  clear hW3
  clear c2_0_0 c2_0_1 z2_0 c2_1_0 c2_1_1 z2_1
  refine (right_any _ _ _ hw3_).mono ?_
  rw [HT.out]
  rintro e w3 ⟨rfl, hb3⟩
  have hB3 := below_then hB3_ hb3
  have hw3 := hw3_.below hb3
  have M3 := M3_.below hb3
  clear M3_ hB3_ hb3 hw3_
  have c3_0_0 := Mem.cell (v := .int .i64 d) M3.1 0 rfl
  have c3_0_1 := Mem.cell (v := .int .i64 b) M3.1 1 rfl
  have z3_0 := Mem.lt M3.1
  have c3_1_0 := Mem.cell (v := .int .i64 c) M3.2.1 0 rfl
  have c3_1_1 := Mem.cell (v := .int .i64 a) M3.2.1 1 rfl
  have z3_1 := Mem.lt M3.2.1
  go_wp2_with fail
  refine Calls.named ?_
  intro W4 hW4
  have hB4_ : Below w.heap.size w W4 := by rw [hW4]; exact hB3
  have hw4_ : LaidOp W4 := by rw [hW4]; exact hw3
  have M4_ := M3
  rw [← hW4] at M4_
  clear hW4
  clear c3_0_0 c3_0_1 z3_0 c3_1_0 c3_1_1 z3_1
  refine (right_any _ _ _ hw4_).mono ?_
  rw [HR.out]
  rintro e w4 ⟨rfl, hb4⟩
  have hB4 := below_then hB4_ hb4
  have hw4 := hw4_.below hb4
  have M4 := M4_.below hb4
  clear M4_ hB4_ hb4 hw4_
  have c4_0_0 := Mem.cell (v := .int .i64 d) M4.1 0 rfl
  have c4_0_1 := Mem.cell (v := .int .i64 b) M4.1 1 rfl
  have z4_0 := Mem.lt M4.1
  have c4_1_0 := Mem.cell (v := .int .i64 c) M4.2.1 0 rfl
  have c4_1_1 := Mem.cell (v := .int .i64 a) M4.2.1 1 rfl
  have z4_1 := Mem.lt M4.2.1
  go_wp2_with fail
  go_ret
  exact ⟨rfl, hB4⟩
theorem opBack_walk (c a d b : Int) (ahead behind : ByteArray) (_ : InI64 c) (_ : InI64 a) (_ : InI64 d) (_ : InI64 b) (hx : ahead.size ≤ 140737488351232) (hy : behind.size ≤ 140737488351232) (w : World) (hw : LaidOp w) :
    Calls Tryd.prog 3 #[.agg #[.int .i64 c, .int .i64 a], .agg #[.int .i64 d, .int .i64 b], .string ahead, .string behind] w fun e w' => e = .returned (.bool true) ∧ Below w.heap.size w w' := by
  cases hr : rightB c a with
  | false => exact back_w1 c a d b ahead behind w hw hr
  | true =>
    cases ht : rightB d b with
    | false => exact back_w2 c a d b ahead behind w hw hr ht
    | true =>
      have q1 : ¬ (c = d ∧ a = b) → (opPut c a == opPut d b) = false := fun h => beq_eq_false_iff_ne.2 fun e => h (opPut_inj hr ht e)
      have q2 : ¬ (c = d ∧ a = b) → (opText c a == opText d b) = false := fun h => beq_eq_false_iff_ne.2 fun e => h (opText_inj hr ht e)
      by_cases h1 : c = d
      · subst h1
        by_cases h2 : a = b
        · subst h2
          exact back_same c a ahead behind hx hy w hw hr ht
        · exact back_arg c a b ahead behind hx hy w hw hr ht (q1 fun h => h2 h.2) (q2 fun h => h2 h.2) (beq_eq_false_iff_ne.2 h2)
      · exact back_code c a d b ahead behind hx hy w hw hr ht (q1 fun h => h1 h.1) (q2 fun h => h1 h.1) (beq_eq_false_iff_ne.2 h1)
end Go.Proofs.YthplcmoojmnofaaDoor
