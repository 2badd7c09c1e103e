/- A number, a label and a handle are right just if what they have is, and nothing else is there. The walk: the law answers true; no memory that was there is turned. Conditions: a string has at most 140737488351232 bytes, the listed package variables hold what the program's text lays. -/
import Derived.Test.YtcgelcccboifjaaDoorWValTorn
namespace Go.Proofs.YtcgelcccboifjaaDoor
open Go.RowKit
theorem eql_label_zero (s i : ByteArray) (b c : Bool) (hs : s.toList.isEmpty = b) (hi : i.toList.isEmpty = c) (W : World) : (binOp .eql 24 (.agg #[.string s, .string i]) (.agg #[.string ⟨#[]⟩, .string ⟨#[]⟩])).run Tryd.prog W = .ok (.bool (b && c)) W := by
  cases b <;> cases c
  all_goals go_simp
theorem eql_label_zero' (s i : ByteArray) (W : World) : (binOp .eql 24 (.agg #[.string s, .string i]) (.agg #[.string ⟨#[]⟩, .string ⟨#[]⟩])).run Tryd.prog W = .ok (.bool (s.toList.isEmpty && i.toList.isEmpty)) W := eql_label_zero s i _ _ rfl rfl W
set_option maxRecDepth 100000 in
set_option maxHeartbeats 4000000 in
theorem vr1 (n : Int) (be : Bool) (m s i S8 I8 : ByteArray) (w : World) (hw : LaidV w) (hf : ∀ w, Calls Tryd.prog 9 #[.agg #[.int .i64 1, .int .i64 n, .string m, .string s, .string i]] w fun e w' => e = .returned (.agg #[.int .i64 1, .int .i64 n, .string m, .string S8, .string I8]) ∧ Below w.heap.size w w') (X : Bool) (hx : ∀ W, (binOp .eql 24 (.agg #[.string S8, .string I8]) (.agg #[.string ⟨#[]⟩, .string ⟨#[]⟩])).run Tryd.prog W = .ok (.bool X) W) (hm : m.toList.isEmpty = be) (hr : ∀ w, LaidV w → Calls Tryd.prog 10 #[.agg #[.int .i64 1, .int .i64 n, .string m, .string S8, .string I8]] w fun e w' => e = .returned (.bool (be && X)) ∧ Below w.heap.size w w') (hh : ∀ w, LaidV w → Calls Tryd.prog 16 #[.agg #[.int .i64 1, .int .i64 n, .string m, .string S8, .string I8]] w fun e w' => e = .returned (.bool false) ∧ Below w.heap.size w w') :
    Calls Tryd.prog 5 #[.agg #[.int .i64 1, .int .i64 n, .string m, .string s, .string i]] w fun e w' => e = .returned (.bool true) ∧ Below w.heap.size w w' := by
  cases be <;> cases X
  all_goals
    simp only [Bool.and_true, Bool.and_false, Bool.true_and, Bool.false_and] at hr
    go_enter Tryd.func5, Tryd.ntmps5
    have hB0 := Below.refl w.heap.size w
    have M0 := Mem.nil w
    have hw0 := hw
    go_wp2_with fail
    refine Calls.named ?_
    intro W1 hW1
    have hB1_ : Below w.heap.size w W1 := by rw [hW1]; exact (below_al hB0 _)
    have hw1_ : LaidV W1 := by rw [hW1]; exact (hw.alloc _)
    have M1_ := (M0).new' (w.heap.size) (by rfl) (.cells #[.int .i64 1, .int .i64 n, .string m, .string s, .string i] 26)
    rw [← hW1] at M1_
    clear hW1
    have ZZ1_0 := Lib.hid (Mem.lt M1_.1)
    refine (vexamples_any _ hw1_).mono ?_
    rintro e w1 ⟨rfl, hb1⟩
    have hB1 := below_then hB1_ hb1
    have hw1 := hw1_.below hb1
    have M1 := M1_.below hb1
    clear M1_ hB1_ hb1 hw1_
    have c1_0_0 := Mem.cell (v := .int .i64 1) M1.1 0 rfl
    have c1_0_1 := Mem.cell (v := .int .i64 n) M1.1 1 rfl
    have c1_0_2 := Mem.cell (v := .string m) M1.1 2 rfl
    have c1_0_3 := Mem.cell (v := .string s) M1.1 3 rfl
    have c1_0_4 := Mem.cell (v := .string i) M1.1 4 rfl
    have z1_0 := Mem.lt M1.1
    go_wp2_with fail
    refine Calls.named ?_
    intro W2 hW2
    have hB2_ : Below w.heap.size w W2 := by rw [hW2]; exact hB1
    have hw2_ : LaidV W2 := by rw [hW2]; exact hw1
    have M2_ := M1
    rw [← hW2] at M2_
    clear hW2
    have ZZ2_0 := Lib.hid (Mem.lt M2_.1)
    clear c1_0_0 c1_0_1 c1_0_2 c1_0_3 c1_0_4 z1_0
    refine (hf _).mono ?_
    rintro e w2 ⟨rfl, hb2⟩
    have hB2 := below_then hB2_ hb2
    have hw2 := hw2_.below hb2
    have M2 := M2_.below hb2
    clear M2_ hB2_ hb2 hw2_
    have c2_0_0 := Mem.cell (v := .int .i64 1) M2.1 0 rfl
    have c2_0_1 := Mem.cell (v := .int .i64 n) M2.1 1 rfl
    have c2_0_2 := Mem.cell (v := .string m) M2.1 2 rfl
    have c2_0_3 := Mem.cell (v := .string s) M2.1 3 rfl
    have c2_0_4 := Mem.cell (v := .string i) M2.1 4 rfl
    have z2_0 := Mem.lt M2.1
    have f2 := fun j => Mem.free M2.1 j
    go_upto_region 5 with (fail)
    have hX2 : (w2.setCells (w.heap.size) 0 [.int .i64 1, .int .i64 n, .string m, .string S8, .string I8]).heap[w.heap.size]? = some (.cells #[.int .i64 1, .int .i64 n, .string m, .string S8, .string I8] 26) := by rw [setCells_block [.int .i64 1, .int .i64 n, .string m, .string S8, .string I8] 0 _ _ (M2).1 (by simp)]; rfl
    have hY2 := below_setCells (B := w.heap.size) hB2 (b := w.heap.size) (by have := hB2.size; omega) 0 [.int .i64 1, .int .i64 n, .string m, .string S8, .string I8]
    refine wp_named ?_
    intro w3 hW3
    have hB3 : Below w.heap.size w w3 := by rw [hW3]; exact hY2
    have hw3 : LaidV w3 := hw0.below hB3
    have M3 : Mem w3 [(w.heap.size, .cells #[.int .i64 1, .int .i64 n, .string m, .string S8, .string I8] 26)] := by rw [hW3]; exact ⟨hX2, trivial⟩
    clear c2_0_0 c2_0_1 c2_0_2 c2_0_3 c2_0_4 z2_0
    clear hW3 hX2 hY2
    have c3_0_0 := Mem.cell (v := .int .i64 1) M3.1 0 rfl
    have c3_0_1 := Mem.cell (v := .int .i64 n) M3.1 1 rfl
    have c3_0_2 := Mem.cell (v := .string m) M3.1 2 rfl
    have c3_0_3 := Mem.cell (v := .string S8) M3.1 3 rfl
    have c3_0_4 := Mem.cell (v := .string I8) M3.1 4 rfl
    have z3_0 := Mem.lt M3.1
    go_wp2_with fail
    refine Calls.named ?_
    intro W4 hW4
    have hB4_ : Below w.heap.size w W4 := by rw [hW4]; exact hB3
    have hw4_ : LaidV W4 := by rw [hW4]; exact hw3
    have M4_ := M3
    rw [← hW4] at M4_
    clear hW4
    have ZZ4_0 := Lib.hid (Mem.lt M4_.1)
    clear c3_0_0 c3_0_1 c3_0_2 c3_0_3 c3_0_4 z3_0
    refine (hr _ hw4_).mono ?_
    rintro e w4 ⟨rfl, hb4⟩
    have hB4 := below_then hB4_ hb4
    have hw4 := hw4_.below hb4
    have M4 := M4_.below hb4
    clear M4_ hB4_ hb4 hw4_
    have c4_0_0 := Mem.cell (v := .int .i64 1) M4.1 0 rfl
    have c4_0_1 := Mem.cell (v := .int .i64 n) M4.1 1 rfl
    have c4_0_2 := Mem.cell (v := .string m) M4.1 2 rfl
    have c4_0_3 := Mem.cell (v := .string S8) M4.1 3 rfl
    have c4_0_4 := Mem.cell (v := .string I8) M4.1 4 rfl
    have z4_0 := Mem.lt M4.1
    go_wp2_with fail
    refine Calls.named ?_
    intro W5 hW5
    have hB5_ : Below w.heap.size w W5 := by rw [hW5]; exact hB4
    have hw5_ : LaidV W5 := by rw [hW5]; exact hw4
    have M5_ := M4
    rw [← hW5] at M5_
    clear hW5
    have ZZ5_0 := Lib.hid (Mem.lt M5_.1)
    clear c4_0_0 c4_0_1 c4_0_2 c4_0_3 c4_0_4 z4_0
    refine (hh _ hw5_).mono ?_
    rintro e w5 ⟨rfl, hb5⟩
    have hB5 := below_then hB5_ hb5
    have hw5 := hw5_.below hb5
    have M5 := M5_.below hb5
    clear M5_ hB5_ hb5 hw5_
    have c5_0_0 := Mem.cell (v := .int .i64 1) M5.1 0 rfl
    have c5_0_1 := Mem.cell (v := .int .i64 n) M5.1 1 rfl
    have c5_0_2 := Mem.cell (v := .string m) M5.1 2 rfl
    have c5_0_3 := Mem.cell (v := .string S8) M5.1 3 rfl
    have c5_0_4 := Mem.cell (v := .string I8) M5.1 4 rfl
    have z5_0 := Mem.lt M5.1
    go_wp2_with fail
    go_ret
    exact ⟨rfl, hB5⟩
set_option maxRecDepth 100000 in
set_option maxHeartbeats 4000000 in
theorem vr2 (n : Int) (be n0 R : Bool) (m s i S8 I8 : ByteArray) (w : World) (hw : LaidV w) (hf : ∀ w, Calls Tryd.prog 9 #[.agg #[.int .i64 2, .int .i64 n, .string m, .string s, .string i]] w fun e w' => e = .returned (.agg #[.int .i64 2, .int .i64 n, .string m, .string S8, .string I8]) ∧ Below w.heap.size w w') (X : Bool) (hx : ∀ W, (binOp .eql 24 (.agg #[.string S8, .string I8]) (.agg #[.string ⟨#[]⟩, .string ⟨#[]⟩])).run Tryd.prog W = .ok (.bool X) W) (hm : m.toList.isEmpty = be) (hn : (n == 0) = n0) (hl : ∀ w, Calls Tryd.prog 14 #[.agg #[.string S8, .string I8]] w fun e w' => e = .returned (.bool R) ∧ Below w.heap.size w w') (hr : ∀ w, LaidV w → Calls Tryd.prog 10 #[.agg #[.int .i64 2, .int .i64 n, .string m, .string S8, .string I8]] w fun e w' => e = .returned (.bool (n0 && be && R)) ∧ Below w.heap.size w w') (hh : ∀ w, LaidV w → Calls Tryd.prog 16 #[.agg #[.int .i64 2, .int .i64 n, .string m, .string S8, .string I8]] w fun e w' => e = .returned (.bool false) ∧ Below w.heap.size w w') :
    Calls Tryd.prog 5 #[.agg #[.int .i64 2, .int .i64 n, .string m, .string s, .string i]] w fun e w' => e = .returned (.bool true) ∧ Below w.heap.size w w' := by
  cases n0 with
  | false =>
    simp only [Bool.and_true, Bool.and_false, Bool.true_and, Bool.false_and] at hr
    cases be
    all_goals
      go_enter Tryd.func5, Tryd.ntmps5
      have hB0 := Below.refl w.heap.size w
      have M0 := Mem.nil w
      have hw0 := hw
      go_wp2_with fail
      refine Calls.named ?_
      intro W1 hW1
      have hB1_ : Below w.heap.size w W1 := by rw [hW1]; exact (below_al hB0 _)
      have hw1_ : LaidV W1 := by rw [hW1]; exact (hw.alloc _)
      have M1_ := (M0).new' (w.heap.size) (by rfl) (.cells #[.int .i64 2, .int .i64 n, .string m, .string s, .string i] 26)
      rw [← hW1] at M1_
      clear hW1
      have ZZ1_0 := Lib.hid (Mem.lt M1_.1)
      refine (vexamples_any _ hw1_).mono ?_
      rintro e w1 ⟨rfl, hb1⟩
      have hB1 := below_then hB1_ hb1
      have hw1 := hw1_.below hb1
      have M1 := M1_.below hb1
      clear M1_ hB1_ hb1 hw1_
      have c1_0_0 := Mem.cell (v := .int .i64 2) M1.1 0 rfl
      have c1_0_1 := Mem.cell (v := .int .i64 n) M1.1 1 rfl
      have c1_0_2 := Mem.cell (v := .string m) M1.1 2 rfl
      have c1_0_3 := Mem.cell (v := .string s) M1.1 3 rfl
      have c1_0_4 := Mem.cell (v := .string i) M1.1 4 rfl
      have z1_0 := Mem.lt M1.1
      go_wp2_with fail
      refine Calls.named ?_
      intro W2 hW2
      have hB2_ : Below w.heap.size w W2 := by rw [hW2]; exact hB1
      have hw2_ : LaidV W2 := by rw [hW2]; exact hw1
      have M2_ := M1
      rw [← hW2] at M2_
      clear hW2
      have ZZ2_0 := Lib.hid (Mem.lt M2_.1)
      clear c1_0_0 c1_0_1 c1_0_2 c1_0_3 c1_0_4 z1_0
      refine (hf _).mono ?_
      rintro e w2 ⟨rfl, hb2⟩
      have hB2 := below_then hB2_ hb2
      have hw2 := hw2_.below hb2
      have M2 := M2_.below hb2
      clear M2_ hB2_ hb2 hw2_
      have c2_0_0 := Mem.cell (v := .int .i64 2) M2.1 0 rfl
      have c2_0_1 := Mem.cell (v := .int .i64 n) M2.1 1 rfl
      have c2_0_2 := Mem.cell (v := .string m) M2.1 2 rfl
      have c2_0_3 := Mem.cell (v := .string s) M2.1 3 rfl
      have c2_0_4 := Mem.cell (v := .string i) M2.1 4 rfl
      have z2_0 := Mem.lt M2.1
      have f2 := fun j => Mem.free M2.1 j
      go_upto_region 5 with (fail)
      have hX2 : (w2.setCells (w.heap.size) 0 [.int .i64 2, .int .i64 n, .string m, .string S8, .string I8]).heap[w.heap.size]? = some (.cells #[.int .i64 2, .int .i64 n, .string m, .string S8, .string I8] 26) := by rw [setCells_block [.int .i64 2, .int .i64 n, .string m, .string S8, .string I8] 0 _ _ (M2).1 (by simp)]; rfl
      have hY2 := below_setCells (B := w.heap.size) hB2 (b := w.heap.size) (by have := hB2.size; omega) 0 [.int .i64 2, .int .i64 n, .string m, .string S8, .string I8]
      refine wp_named ?_
      intro w3 hW3
      have hB3 : Below w.heap.size w w3 := by rw [hW3]; exact hY2
      have hw3 : LaidV w3 := hw0.below hB3
      have M3 : Mem w3 [(w.heap.size, .cells #[.int .i64 2, .int .i64 n, .string m, .string S8, .string I8] 26)] := by rw [hW3]; exact ⟨hX2, trivial⟩
      clear c2_0_0 c2_0_1 c2_0_2 c2_0_3 c2_0_4 z2_0
      clear hW3 hX2 hY2
      have c3_0_0 := Mem.cell (v := .int .i64 2) M3.1 0 rfl
      have c3_0_1 := Mem.cell (v := .int .i64 n) M3.1 1 rfl
      have c3_0_2 := Mem.cell (v := .string m) M3.1 2 rfl
      have c3_0_3 := Mem.cell (v := .string S8) M3.1 3 rfl
      have c3_0_4 := Mem.cell (v := .string I8) M3.1 4 rfl
      have z3_0 := Mem.lt M3.1
      go_wp2_with fail
      refine Calls.named ?_
      intro W4 hW4
      have hB4_ : Below w.heap.size w W4 := by rw [hW4]; exact hB3
      have hw4_ : LaidV W4 := by rw [hW4]; exact hw3
      have M4_ := M3
      rw [← hW4] at M4_
      clear hW4
      have ZZ4_0 := Lib.hid (Mem.lt M4_.1)
      clear c3_0_0 c3_0_1 c3_0_2 c3_0_3 c3_0_4 z3_0
      refine (hr _ hw4_).mono ?_
      rintro e w4 ⟨rfl, hb4⟩
      have hB4 := below_then hB4_ hb4
      have hw4 := hw4_.below hb4
      have M4 := M4_.below hb4
      clear M4_ hB4_ hb4 hw4_
      have c4_0_0 := Mem.cell (v := .int .i64 2) M4.1 0 rfl
      have c4_0_1 := Mem.cell (v := .int .i64 n) M4.1 1 rfl
      have c4_0_2 := Mem.cell (v := .string m) M4.1 2 rfl
      have c4_0_3 := Mem.cell (v := .string S8) M4.1 3 rfl
      have c4_0_4 := Mem.cell (v := .string I8) M4.1 4 rfl
      have z4_0 := Mem.lt M4.1
      go_wp2_with fail
      refine Calls.named ?_
      intro W5 hW5
      have hB5_ : Below w.heap.size w W5 := by rw [hW5]; exact hB4
      have hw5_ : LaidV W5 := by rw [hW5]; exact hw4
      have M5_ := M4
      rw [← hW5] at M5_
      clear hW5
      have ZZ5_0 := Lib.hid (Mem.lt M5_.1)
      clear c4_0_0 c4_0_1 c4_0_2 c4_0_3 c4_0_4 z4_0
      refine (hh _ hw5_).mono ?_
      rintro e w5 ⟨rfl, hb5⟩
      have hB5 := below_then hB5_ hb5
      have hw5 := hw5_.below hb5
      have M5 := M5_.below hb5
      clear M5_ hB5_ hb5 hw5_
      have c5_0_0 := Mem.cell (v := .int .i64 2) M5.1 0 rfl
      have c5_0_1 := Mem.cell (v := .int .i64 n) M5.1 1 rfl
      have c5_0_2 := Mem.cell (v := .string m) M5.1 2 rfl
      have c5_0_3 := Mem.cell (v := .string S8) M5.1 3 rfl
      have c5_0_4 := Mem.cell (v := .string I8) M5.1 4 rfl
      have z5_0 := Mem.lt M5.1
      go_wp2_with fail
      go_ret
      exact ⟨rfl, hB5⟩
  | true =>
    cases be with
    | false =>
      simp only [Bool.and_true, Bool.and_false, Bool.true_and, Bool.false_and] at hr
      go_enter Tryd.func5, Tryd.ntmps5
      have hB0 := Below.refl w.heap.size w
      have M0 := Mem.nil w
      have hw0 := hw
      go_wp2_with fail
      refine Calls.named ?_
      intro W1 hW1
      have hB1_ : Below w.heap.size w W1 := by rw [hW1]; exact (below_al hB0 _)
      have hw1_ : LaidV W1 := by rw [hW1]; exact (hw.alloc _)
      have M1_ := (M0).new' (w.heap.size) (by rfl) (.cells #[.int .i64 2, .int .i64 n, .string m, .string s, .string i] 26)
      rw [← hW1] at M1_
      clear hW1
      have ZZ1_0 := Lib.hid (Mem.lt M1_.1)
      refine (vexamples_any _ hw1_).mono ?_
      rintro e w1 ⟨rfl, hb1⟩
      have hB1 := below_then hB1_ hb1
      have hw1 := hw1_.below hb1
      have M1 := M1_.below hb1
      clear M1_ hB1_ hb1 hw1_
      have c1_0_0 := Mem.cell (v := .int .i64 2) M1.1 0 rfl
      have c1_0_1 := Mem.cell (v := .int .i64 n) M1.1 1 rfl
      have c1_0_2 := Mem.cell (v := .string m) M1.1 2 rfl
      have c1_0_3 := Mem.cell (v := .string s) M1.1 3 rfl
      have c1_0_4 := Mem.cell (v := .string i) M1.1 4 rfl
      have z1_0 := Mem.lt M1.1
      go_wp2_with fail
      refine Calls.named ?_
      intro W2 hW2
      have hB2_ : Below w.heap.size w W2 := by rw [hW2]; exact hB1
      have hw2_ : LaidV W2 := by rw [hW2]; exact hw1
      have M2_ := M1
      rw [← hW2] at M2_
      clear hW2
      have ZZ2_0 := Lib.hid (Mem.lt M2_.1)
      clear c1_0_0 c1_0_1 c1_0_2 c1_0_3 c1_0_4 z1_0
      refine (hf _).mono ?_
      rintro e w2 ⟨rfl, hb2⟩
      have hB2 := below_then hB2_ hb2
      have hw2 := hw2_.below hb2
      have M2 := M2_.below hb2
      clear M2_ hB2_ hb2 hw2_
      have c2_0_0 := Mem.cell (v := .int .i64 2) M2.1 0 rfl
      have c2_0_1 := Mem.cell (v := .int .i64 n) M2.1 1 rfl
      have c2_0_2 := Mem.cell (v := .string m) M2.1 2 rfl
      have c2_0_3 := Mem.cell (v := .string s) M2.1 3 rfl
      have c2_0_4 := Mem.cell (v := .string i) M2.1 4 rfl
      have z2_0 := Mem.lt M2.1
      have f2 := fun j => Mem.free M2.1 j
      go_upto_region 5 with (fail)
      have hX2 : (w2.setCells (w.heap.size) 0 [.int .i64 2, .int .i64 n, .string m, .string S8, .string I8]).heap[w.heap.size]? = some (.cells #[.int .i64 2, .int .i64 n, .string m, .string S8, .string I8] 26) := by rw [setCells_block [.int .i64 2, .int .i64 n, .string m, .string S8, .string I8] 0 _ _ (M2).1 (by simp)]; rfl
      have hY2 := below_setCells (B := w.heap.size) hB2 (b := w.heap.size) (by have := hB2.size; omega) 0 [.int .i64 2, .int .i64 n, .string m, .string S8, .string I8]
      refine wp_named ?_
      intro w3 hW3
      have hB3 : Below w.heap.size w w3 := by rw [hW3]; exact hY2
      have hw3 : LaidV w3 := hw0.below hB3
      have M3 : Mem w3 [(w.heap.size, .cells #[.int .i64 2, .int .i64 n, .string m, .string S8, .string I8] 26)] := by rw [hW3]; exact ⟨hX2, trivial⟩
      clear c2_0_0 c2_0_1 c2_0_2 c2_0_3 c2_0_4 z2_0
      clear hW3 hX2 hY2
      have c3_0_0 := Mem.cell (v := .int .i64 2) M3.1 0 rfl
      have c3_0_1 := Mem.cell (v := .int .i64 n) M3.1 1 rfl
      have c3_0_2 := Mem.cell (v := .string m) M3.1 2 rfl
      have c3_0_3 := Mem.cell (v := .string S8) M3.1 3 rfl
      have c3_0_4 := Mem.cell (v := .string I8) M3.1 4 rfl
      have z3_0 := Mem.lt M3.1
      go_wp2_with fail
      refine Calls.named ?_
      intro W4 hW4
      have hB4_ : Below w.heap.size w W4 := by rw [hW4]; exact hB3
      have hw4_ : LaidV W4 := by rw [hW4]; exact hw3
      have M4_ := M3
      rw [← hW4] at M4_
      clear hW4
      have ZZ4_0 := Lib.hid (Mem.lt M4_.1)
      clear c3_0_0 c3_0_1 c3_0_2 c3_0_3 c3_0_4 z3_0
      refine (hr _ hw4_).mono ?_
      rintro e w4 ⟨rfl, hb4⟩
      have hB4 := below_then hB4_ hb4
      have hw4 := hw4_.below hb4
      have M4 := M4_.below hb4
      clear M4_ hB4_ hb4 hw4_
      have c4_0_0 := Mem.cell (v := .int .i64 2) M4.1 0 rfl
      have c4_0_1 := Mem.cell (v := .int .i64 n) M4.1 1 rfl
      have c4_0_2 := Mem.cell (v := .string m) M4.1 2 rfl
      have c4_0_3 := Mem.cell (v := .string S8) M4.1 3 rfl
      have c4_0_4 := Mem.cell (v := .string I8) M4.1 4 rfl
      have z4_0 := Mem.lt M4.1
      go_wp2_with fail
      refine Calls.named ?_
      intro W5 hW5
      have hB5_ : Below w.heap.size w W5 := by rw [hW5]; exact hB4
      have hw5_ : LaidV W5 := by rw [hW5]; exact hw4
      have M5_ := M4
      rw [← hW5] at M5_
      clear hW5
      have ZZ5_0 := Lib.hid (Mem.lt M5_.1)
      clear c4_0_0 c4_0_1 c4_0_2 c4_0_3 c4_0_4 z4_0
      refine (hh _ hw5_).mono ?_
      rintro e w5 ⟨rfl, hb5⟩
      have hB5 := below_then hB5_ hb5
      have hw5 := hw5_.below hb5
      have M5 := M5_.below hb5
      clear M5_ hB5_ hb5 hw5_
      have c5_0_0 := Mem.cell (v := .int .i64 2) M5.1 0 rfl
      have c5_0_1 := Mem.cell (v := .int .i64 n) M5.1 1 rfl
      have c5_0_2 := Mem.cell (v := .string m) M5.1 2 rfl
      have c5_0_3 := Mem.cell (v := .string S8) M5.1 3 rfl
      have c5_0_4 := Mem.cell (v := .string I8) M5.1 4 rfl
      have z5_0 := Mem.lt M5.1
      go_wp2_with fail
      go_ret
      exact ⟨rfl, hB5⟩
    | true =>
      simp only [Bool.and_true, Bool.and_false, Bool.true_and, Bool.false_and] at hr
      cases R
      all_goals
        go_enter Tryd.func5, Tryd.ntmps5
        have hB0 := Below.refl w.heap.size w
        have M0 := Mem.nil w
        have hw0 := hw
        go_wp2_with fail
        refine Calls.named ?_
        intro W1 hW1
        have hB1_ : Below w.heap.size w W1 := by rw [hW1]; exact (below_al hB0 _)
        have hw1_ : LaidV W1 := by rw [hW1]; exact (hw.alloc _)
        have M1_ := (M0).new' (w.heap.size) (by rfl) (.cells #[.int .i64 2, .int .i64 n, .string m, .string s, .string i] 26)
        rw [← hW1] at M1_
        clear hW1
        have ZZ1_0 := Lib.hid (Mem.lt M1_.1)
        refine (vexamples_any _ hw1_).mono ?_
        rintro e w1 ⟨rfl, hb1⟩
        have hB1 := below_then hB1_ hb1
        have hw1 := hw1_.below hb1
        have M1 := M1_.below hb1
        clear M1_ hB1_ hb1 hw1_
        have c1_0_0 := Mem.cell (v := .int .i64 2) M1.1 0 rfl
        have c1_0_1 := Mem.cell (v := .int .i64 n) M1.1 1 rfl
        have c1_0_2 := Mem.cell (v := .string m) M1.1 2 rfl
        have c1_0_3 := Mem.cell (v := .string s) M1.1 3 rfl
        have c1_0_4 := Mem.cell (v := .string i) M1.1 4 rfl
        have z1_0 := Mem.lt M1.1
        go_wp2_with fail
        refine Calls.named ?_
        intro W2 hW2
        have hB2_ : Below w.heap.size w W2 := by rw [hW2]; exact hB1
        have hw2_ : LaidV W2 := by rw [hW2]; exact hw1
        have M2_ := M1
        rw [← hW2] at M2_
        clear hW2
        have ZZ2_0 := Lib.hid (Mem.lt M2_.1)
        clear c1_0_0 c1_0_1 c1_0_2 c1_0_3 c1_0_4 z1_0
        refine (hf _).mono ?_
        rintro e w2 ⟨rfl, hb2⟩
        have hB2 := below_then hB2_ hb2
        have hw2 := hw2_.below hb2
        have M2 := M2_.below hb2
        clear M2_ hB2_ hb2 hw2_
        have c2_0_0 := Mem.cell (v := .int .i64 2) M2.1 0 rfl
        have c2_0_1 := Mem.cell (v := .int .i64 n) M2.1 1 rfl
        have c2_0_2 := Mem.cell (v := .string m) M2.1 2 rfl
        have c2_0_3 := Mem.cell (v := .string s) M2.1 3 rfl
        have c2_0_4 := Mem.cell (v := .string i) M2.1 4 rfl
        have z2_0 := Mem.lt M2.1
        have f2 := fun j => Mem.free M2.1 j
        go_upto_region 5 with (fail)
        have hX2 : (w2.setCells (w.heap.size) 0 [.int .i64 2, .int .i64 n, .string m, .string S8, .string I8]).heap[w.heap.size]? = some (.cells #[.int .i64 2, .int .i64 n, .string m, .string S8, .string I8] 26) := by rw [setCells_block [.int .i64 2, .int .i64 n, .string m, .string S8, .string I8] 0 _ _ (M2).1 (by simp)]; rfl
        have hY2 := below_setCells (B := w.heap.size) hB2 (b := w.heap.size) (by have := hB2.size; omega) 0 [.int .i64 2, .int .i64 n, .string m, .string S8, .string I8]
        refine wp_named ?_
        intro w3 hW3
        have hB3 : Below w.heap.size w w3 := by rw [hW3]; exact hY2
        have hw3 : LaidV w3 := hw0.below hB3
        have M3 : Mem w3 [(w.heap.size, .cells #[.int .i64 2, .int .i64 n, .string m, .string S8, .string I8] 26)] := by rw [hW3]; exact ⟨hX2, trivial⟩
        clear c2_0_0 c2_0_1 c2_0_2 c2_0_3 c2_0_4 z2_0
        clear hW3 hX2 hY2
        have c3_0_0 := Mem.cell (v := .int .i64 2) M3.1 0 rfl
        have c3_0_1 := Mem.cell (v := .int .i64 n) M3.1 1 rfl
        have c3_0_2 := Mem.cell (v := .string m) M3.1 2 rfl
        have c3_0_3 := Mem.cell (v := .string S8) M3.1 3 rfl
        have c3_0_4 := Mem.cell (v := .string I8) M3.1 4 rfl
        have z3_0 := Mem.lt M3.1
        go_wp2_with fail
        refine Calls.named ?_
        intro W4 hW4
        have hB4_ : Below w.heap.size w W4 := by rw [hW4]; exact hB3
        have hw4_ : LaidV W4 := by rw [hW4]; exact hw3
        have M4_ := M3
        rw [← hW4] at M4_
        clear hW4
        have ZZ4_0 := Lib.hid (Mem.lt M4_.1)
        clear c3_0_0 c3_0_1 c3_0_2 c3_0_3 c3_0_4 z3_0
        refine (hl _).mono ?_
        rintro e w4 ⟨rfl, hb4⟩
        have hB4 := below_then hB4_ hb4
        have hw4 := hw4_.below hb4
        have M4 := M4_.below hb4
        clear M4_ hB4_ hb4 hw4_
        have c4_0_0 := Mem.cell (v := .int .i64 2) M4.1 0 rfl
        have c4_0_1 := Mem.cell (v := .int .i64 n) M4.1 1 rfl
        have c4_0_2 := Mem.cell (v := .string m) M4.1 2 rfl
        have c4_0_3 := Mem.cell (v := .string S8) M4.1 3 rfl
        have c4_0_4 := Mem.cell (v := .string I8) M4.1 4 rfl
        have z4_0 := Mem.lt M4.1
        go_wp2_with fail
        refine Calls.named ?_
        intro W5 hW5
        have hB5_ : Below w.heap.size w W5 := by rw [hW5]; exact hB4
        have hw5_ : LaidV W5 := by rw [hW5]; exact hw4
        have M5_ := M4
        rw [← hW5] at M5_
        clear hW5
        have ZZ5_0 := Lib.hid (Mem.lt M5_.1)
        clear c4_0_0 c4_0_1 c4_0_2 c4_0_3 c4_0_4 z4_0
        refine (hr _ hw5_).mono ?_
        rintro e w5 ⟨rfl, hb5⟩
        have hB5 := below_then hB5_ hb5
        have hw5 := hw5_.below hb5
        have M5 := M5_.below hb5
        clear M5_ hB5_ hb5 hw5_
        have c5_0_0 := Mem.cell (v := .int .i64 2) M5.1 0 rfl
        have c5_0_1 := Mem.cell (v := .int .i64 n) M5.1 1 rfl
        have c5_0_2 := Mem.cell (v := .string m) M5.1 2 rfl
        have c5_0_3 := Mem.cell (v := .string S8) M5.1 3 rfl
        have c5_0_4 := Mem.cell (v := .string I8) M5.1 4 rfl
        have z5_0 := Mem.lt M5.1
        go_wp2_with fail
        refine Calls.named ?_
        intro W6 hW6
        have hB6_ : Below w.heap.size w W6 := by rw [hW6]; exact hB5
        have hw6_ : LaidV W6 := by rw [hW6]; exact hw5
        have M6_ := M5
        rw [← hW6] at M6_
        clear hW6
        have ZZ6_0 := Lib.hid (Mem.lt M6_.1)
        clear c5_0_0 c5_0_1 c5_0_2 c5_0_3 c5_0_4 z5_0
        refine (hh _ hw6_).mono ?_
        rintro e w6 ⟨rfl, hb6⟩
        have hB6 := below_then hB6_ hb6
        have hw6 := hw6_.below hb6
        have M6 := M6_.below hb6
        clear M6_ hB6_ hb6 hw6_
        have c6_0_0 := Mem.cell (v := .int .i64 2) M6.1 0 rfl
        have c6_0_1 := Mem.cell (v := .int .i64 n) M6.1 1 rfl
        have c6_0_2 := Mem.cell (v := .string m) M6.1 2 rfl
        have c6_0_3 := Mem.cell (v := .string S8) M6.1 3 rfl
        have c6_0_4 := Mem.cell (v := .string I8) M6.1 4 rfl
        have z6_0 := Mem.lt M6.1
        go_wp2_with fail
        go_ret
        exact ⟨rfl, hB6⟩
set_option maxRecDepth 100000 in
set_option maxHeartbeats 4000000 in
theorem vr3 (k n : Int) (hk1 : (k == 1) = false) (hk2 : (k == 2) = false) (hk3 : 3 ≤ k) (hk7 : k ≤ 7) (be n0 NR R : Bool) (m s i S8 I8 : ByteArray) (w : World) (hw : LaidV w) (hf : ∀ w, Calls Tryd.prog 9 #[.agg #[.int .i64 k, .int .i64 n, .string m, .string s, .string i]] w fun e w' => e = .returned (.agg #[.int .i64 k, .int .i64 n, .string m, .string S8, .string I8]) ∧ Below w.heap.size w w') (X : Bool) (hx : ∀ W, (binOp .eql 24 (.agg #[.string S8, .string I8]) (.agg #[.string ⟨#[]⟩, .string ⟨#[]⟩])).run Tryd.prog W = .ok (.bool X) W) (hm : m.toList.isEmpty = be) (hn : (n == 0) = n0) (hnm : ∀ w, LaidV w → Calls Tryd.prog 15 #[.string m] w fun e w' => e = .returned (.bool NR) ∧ Below w.heap.size w w') (hl : ∀ w, Calls Tryd.prog 14 #[.agg #[.string S8, .string I8]] w fun e w' => e = .returned (.bool R) ∧ Below w.heap.size w w') (hr : ∀ w, LaidV w → Calls Tryd.prog 10 #[.agg #[.int .i64 k, .int .i64 n, .string m, .string S8, .string I8]] w fun e w' => e = .returned (.bool (n0 && NR && R)) ∧ Below w.heap.size w w') (hh : ∀ w, LaidV w → Calls Tryd.prog 16 #[.agg #[.int .i64 k, .int .i64 n, .string m, .string S8, .string I8]] w fun e w' => e = .returned (.bool (n0 && NR && R)) ∧ Below w.heap.size w w') :
    Calls Tryd.prog 5 #[.agg #[.int .i64 k, .int .i64 n, .string m, .string s, .string i]] w fun e w' => e = .returned (.bool true) ∧ Below w.heap.size w w' := by
  have hd2 : 2 < k := by omega
  cases n0 with
  | false =>
    simp only [Bool.and_true, Bool.and_false, Bool.true_and, Bool.false_and] at hr hh
    cases be
    all_goals
      go_enter Tryd.func5, Tryd.ntmps5
      have hB0 := Below.refl w.heap.size w
      have M0 := Mem.nil w
      have hw0 := hw
      go_wp2_with fail
      refine Calls.named ?_
      intro W1 hW1
      have hB1_ : Below w.heap.size w W1 := by rw [hW1]; exact (below_al hB0 _)
      have hw1_ : LaidV W1 := by rw [hW1]; exact (hw.alloc _)
      have M1_ := (M0).new' (w.heap.size) (by rfl) (.cells #[.int .i64 k, .int .i64 n, .string m, .string s, .string i] 26)
      rw [← hW1] at M1_
      clear hW1
      have ZZ1_0 := Lib.hid (Mem.lt M1_.1)
      refine (vexamples_any _ hw1_).mono ?_
      rintro e w1 ⟨rfl, hb1⟩
      have hB1 := below_then hB1_ hb1
      have hw1 := hw1_.below hb1
      have M1 := M1_.below hb1
      clear M1_ hB1_ hb1 hw1_
      have c1_0_0 := Mem.cell (v := .int .i64 k) M1.1 0 rfl
      have c1_0_1 := Mem.cell (v := .int .i64 n) M1.1 1 rfl
      have c1_0_2 := Mem.cell (v := .string m) M1.1 2 rfl
      have c1_0_3 := Mem.cell (v := .string s) M1.1 3 rfl
      have c1_0_4 := Mem.cell (v := .string i) M1.1 4 rfl
      have z1_0 := Mem.lt M1.1
      go_wp2_with fail
      refine Calls.named ?_
      intro W2 hW2
      have hB2_ : Below w.heap.size w W2 := by rw [hW2]; exact hB1
      have hw2_ : LaidV W2 := by rw [hW2]; exact hw1
      have M2_ := M1
      rw [← hW2] at M2_
      clear hW2
      have ZZ2_0 := Lib.hid (Mem.lt M2_.1)
      clear c1_0_0 c1_0_1 c1_0_2 c1_0_3 c1_0_4 z1_0
      refine (hf _).mono ?_
      rintro e w2 ⟨rfl, hb2⟩
      have hB2 := below_then hB2_ hb2
      have hw2 := hw2_.below hb2
      have M2 := M2_.below hb2
      clear M2_ hB2_ hb2 hw2_
      have c2_0_0 := Mem.cell (v := .int .i64 k) M2.1 0 rfl
      have c2_0_1 := Mem.cell (v := .int .i64 n) M2.1 1 rfl
      have c2_0_2 := Mem.cell (v := .string m) M2.1 2 rfl
      have c2_0_3 := Mem.cell (v := .string s) M2.1 3 rfl
      have c2_0_4 := Mem.cell (v := .string i) M2.1 4 rfl
      have z2_0 := Mem.lt M2.1
      have f2 := fun j => Mem.free M2.1 j
      go_upto_region 5 with (fail)
      have hX2 : (w2.setCells (w.heap.size) 0 [.int .i64 k, .int .i64 n, .string m, .string S8, .string I8]).heap[w.heap.size]? = some (.cells #[.int .i64 k, .int .i64 n, .string m, .string S8, .string I8] 26) := by rw [setCells_block [.int .i64 k, .int .i64 n, .string m, .string S8, .string I8] 0 _ _ (M2).1 (by simp)]; rfl
      have hY2 := below_setCells (B := w.heap.size) hB2 (b := w.heap.size) (by have := hB2.size; omega) 0 [.int .i64 k, .int .i64 n, .string m, .string S8, .string I8]
      refine wp_named ?_
      intro w3 hW3
      have hB3 : Below w.heap.size w w3 := by rw [hW3]; exact hY2
      have hw3 : LaidV w3 := hw0.below hB3
      have M3 : Mem w3 [(w.heap.size, .cells #[.int .i64 k, .int .i64 n, .string m, .string S8, .string I8] 26)] := by rw [hW3]; exact ⟨hX2, trivial⟩
      clear c2_0_0 c2_0_1 c2_0_2 c2_0_3 c2_0_4 z2_0
      clear hW3 hX2 hY2
      have c3_0_0 := Mem.cell (v := .int .i64 k) M3.1 0 rfl
      have c3_0_1 := Mem.cell (v := .int .i64 n) M3.1 1 rfl
      have c3_0_2 := Mem.cell (v := .string m) M3.1 2 rfl
      have c3_0_3 := Mem.cell (v := .string S8) M3.1 3 rfl
      have c3_0_4 := Mem.cell (v := .string I8) M3.1 4 rfl
      have z3_0 := Mem.lt M3.1
      go_wp2_with fail
      refine Calls.named ?_
      intro W4 hW4
      have hB4_ : Below w.heap.size w W4 := by rw [hW4]; exact hB3
      have hw4_ : LaidV W4 := by rw [hW4]; exact hw3
      have M4_ := M3
      rw [← hW4] at M4_
      clear hW4
      have ZZ4_0 := Lib.hid (Mem.lt M4_.1)
      clear c3_0_0 c3_0_1 c3_0_2 c3_0_3 c3_0_4 z3_0
      refine (hr _ hw4_).mono ?_
      rintro e w4 ⟨rfl, hb4⟩
      have hB4 := below_then hB4_ hb4
      have hw4 := hw4_.below hb4
      have M4 := M4_.below hb4
      clear M4_ hB4_ hb4 hw4_
      have c4_0_0 := Mem.cell (v := .int .i64 k) M4.1 0 rfl
      have c4_0_1 := Mem.cell (v := .int .i64 n) M4.1 1 rfl
      have c4_0_2 := Mem.cell (v := .string m) M4.1 2 rfl
      have c4_0_3 := Mem.cell (v := .string S8) M4.1 3 rfl
      have c4_0_4 := Mem.cell (v := .string I8) M4.1 4 rfl
      have z4_0 := Mem.lt M4.1
      go_wp2_with fail
      refine Calls.named ?_
      intro W5 hW5
      have hB5_ : Below w.heap.size w W5 := by rw [hW5]; exact hB4
      have hw5_ : LaidV W5 := by rw [hW5]; exact hw4
      have M5_ := M4
      rw [← hW5] at M5_
      clear hW5
      have ZZ5_0 := Lib.hid (Mem.lt M5_.1)
      clear c4_0_0 c4_0_1 c4_0_2 c4_0_3 c4_0_4 z4_0
      refine (hh _ hw5_).mono ?_
      rintro e w5 ⟨rfl, hb5⟩
      have hB5 := below_then hB5_ hb5
      have hw5 := hw5_.below hb5
      have M5 := M5_.below hb5
      clear M5_ hB5_ hb5 hw5_
      have c5_0_0 := Mem.cell (v := .int .i64 k) M5.1 0 rfl
      have c5_0_1 := Mem.cell (v := .int .i64 n) M5.1 1 rfl
      have c5_0_2 := Mem.cell (v := .string m) M5.1 2 rfl
      have c5_0_3 := Mem.cell (v := .string S8) M5.1 3 rfl
      have c5_0_4 := Mem.cell (v := .string I8) M5.1 4 rfl
      have z5_0 := Mem.lt M5.1
      go_wp2_with fail
      go_ret
      exact ⟨rfl, hB5⟩
  | true =>
    cases NR with
    | false =>
      simp only [Bool.and_true, Bool.and_false, Bool.true_and, Bool.false_and] at hr hh
      cases be
      all_goals
        go_enter Tryd.func5, Tryd.ntmps5
        have hB0 := Below.refl w.heap.size w
        have M0 := Mem.nil w
        have hw0 := hw
        go_wp2_with fail
        refine Calls.named ?_
        intro W1 hW1
        have hB1_ : Below w.heap.size w W1 := by rw [hW1]; exact (below_al hB0 _)
        have hw1_ : LaidV W1 := by rw [hW1]; exact (hw.alloc _)
        have M1_ := (M0).new' (w.heap.size) (by rfl) (.cells #[.int .i64 k, .int .i64 n, .string m, .string s, .string i] 26)
        rw [← hW1] at M1_
        clear hW1
        have ZZ1_0 := Lib.hid (Mem.lt M1_.1)
        refine (vexamples_any _ hw1_).mono ?_
        rintro e w1 ⟨rfl, hb1⟩
        have hB1 := below_then hB1_ hb1
        have hw1 := hw1_.below hb1
        have M1 := M1_.below hb1
        clear M1_ hB1_ hb1 hw1_
        have c1_0_0 := Mem.cell (v := .int .i64 k) M1.1 0 rfl
        have c1_0_1 := Mem.cell (v := .int .i64 n) M1.1 1 rfl
        have c1_0_2 := Mem.cell (v := .string m) M1.1 2 rfl
        have c1_0_3 := Mem.cell (v := .string s) M1.1 3 rfl
        have c1_0_4 := Mem.cell (v := .string i) M1.1 4 rfl
        have z1_0 := Mem.lt M1.1
        go_wp2_with fail
        refine Calls.named ?_
        intro W2 hW2
        have hB2_ : Below w.heap.size w W2 := by rw [hW2]; exact hB1
        have hw2_ : LaidV W2 := by rw [hW2]; exact hw1
        have M2_ := M1
        rw [← hW2] at M2_
        clear hW2
        have ZZ2_0 := Lib.hid (Mem.lt M2_.1)
        clear c1_0_0 c1_0_1 c1_0_2 c1_0_3 c1_0_4 z1_0
        refine (hf _).mono ?_
        rintro e w2 ⟨rfl, hb2⟩
        have hB2 := below_then hB2_ hb2
        have hw2 := hw2_.below hb2
        have M2 := M2_.below hb2
        clear M2_ hB2_ hb2 hw2_
        have c2_0_0 := Mem.cell (v := .int .i64 k) M2.1 0 rfl
        have c2_0_1 := Mem.cell (v := .int .i64 n) M2.1 1 rfl
        have c2_0_2 := Mem.cell (v := .string m) M2.1 2 rfl
        have c2_0_3 := Mem.cell (v := .string s) M2.1 3 rfl
        have c2_0_4 := Mem.cell (v := .string i) M2.1 4 rfl
        have z2_0 := Mem.lt M2.1
        have f2 := fun j => Mem.free M2.1 j
        go_upto_region 5 with (fail)
        have hX2 : (w2.setCells (w.heap.size) 0 [.int .i64 k, .int .i64 n, .string m, .string S8, .string I8]).heap[w.heap.size]? = some (.cells #[.int .i64 k, .int .i64 n, .string m, .string S8, .string I8] 26) := by rw [setCells_block [.int .i64 k, .int .i64 n, .string m, .string S8, .string I8] 0 _ _ (M2).1 (by simp)]; rfl
        have hY2 := below_setCells (B := w.heap.size) hB2 (b := w.heap.size) (by have := hB2.size; omega) 0 [.int .i64 k, .int .i64 n, .string m, .string S8, .string I8]
        refine wp_named ?_
        intro w3 hW3
        have hB3 : Below w.heap.size w w3 := by rw [hW3]; exact hY2
        have hw3 : LaidV w3 := hw0.below hB3
        have M3 : Mem w3 [(w.heap.size, .cells #[.int .i64 k, .int .i64 n, .string m, .string S8, .string I8] 26)] := by rw [hW3]; exact ⟨hX2, trivial⟩
        clear c2_0_0 c2_0_1 c2_0_2 c2_0_3 c2_0_4 z2_0
        clear hW3 hX2 hY2
        have c3_0_0 := Mem.cell (v := .int .i64 k) M3.1 0 rfl
        have c3_0_1 := Mem.cell (v := .int .i64 n) M3.1 1 rfl
        have c3_0_2 := Mem.cell (v := .string m) M3.1 2 rfl
        have c3_0_3 := Mem.cell (v := .string S8) M3.1 3 rfl
        have c3_0_4 := Mem.cell (v := .string I8) M3.1 4 rfl
        have z3_0 := Mem.lt M3.1
        go_wp2_with fail
        refine Calls.named ?_
        intro W4 hW4
        have hB4_ : Below w.heap.size w W4 := by rw [hW4]; exact hB3
        have hw4_ : LaidV W4 := by rw [hW4]; exact hw3
        have M4_ := M3
        rw [← hW4] at M4_
        clear hW4
        have ZZ4_0 := Lib.hid (Mem.lt M4_.1)
        clear c3_0_0 c3_0_1 c3_0_2 c3_0_3 c3_0_4 z3_0
        refine (hnm _ hw4_).mono ?_
        rintro e w4 ⟨rfl, hb4⟩
        have hB4 := below_then hB4_ hb4
        have hw4 := hw4_.below hb4
        have M4 := M4_.below hb4
        clear M4_ hB4_ hb4 hw4_
        have c4_0_0 := Mem.cell (v := .int .i64 k) M4.1 0 rfl
        have c4_0_1 := Mem.cell (v := .int .i64 n) M4.1 1 rfl
        have c4_0_2 := Mem.cell (v := .string m) M4.1 2 rfl
        have c4_0_3 := Mem.cell (v := .string S8) M4.1 3 rfl
        have c4_0_4 := Mem.cell (v := .string I8) M4.1 4 rfl
        have z4_0 := Mem.lt M4.1
        go_wp2_with fail
        refine Calls.named ?_
        intro W5 hW5
        have hB5_ : Below w.heap.size w W5 := by rw [hW5]; exact hB4
        have hw5_ : LaidV W5 := by rw [hW5]; exact hw4
        have M5_ := M4
        rw [← hW5] at M5_
        clear hW5
        have ZZ5_0 := Lib.hid (Mem.lt M5_.1)
        clear c4_0_0 c4_0_1 c4_0_2 c4_0_3 c4_0_4 z4_0
        refine (hr _ hw5_).mono ?_
        rintro e w5 ⟨rfl, hb5⟩
        have hB5 := below_then hB5_ hb5
        have hw5 := hw5_.below hb5
        have M5 := M5_.below hb5
        clear M5_ hB5_ hb5 hw5_
        have c5_0_0 := Mem.cell (v := .int .i64 k) M5.1 0 rfl
        have c5_0_1 := Mem.cell (v := .int .i64 n) M5.1 1 rfl
        have c5_0_2 := Mem.cell (v := .string m) M5.1 2 rfl
        have c5_0_3 := Mem.cell (v := .string S8) M5.1 3 rfl
        have c5_0_4 := Mem.cell (v := .string I8) M5.1 4 rfl
        have z5_0 := Mem.lt M5.1
        go_wp2_with fail
        refine Calls.named ?_
        intro W6 hW6
        have hB6_ : Below w.heap.size w W6 := by rw [hW6]; exact hB5
        have hw6_ : LaidV W6 := by rw [hW6]; exact hw5
        have M6_ := M5
        rw [← hW6] at M6_
        clear hW6
        have ZZ6_0 := Lib.hid (Mem.lt M6_.1)
        clear c5_0_0 c5_0_1 c5_0_2 c5_0_3 c5_0_4 z5_0
        refine (hh _ hw6_).mono ?_
        rintro e w6 ⟨rfl, hb6⟩
        have hB6 := below_then hB6_ hb6
        have hw6 := hw6_.below hb6
        have M6 := M6_.below hb6
        clear M6_ hB6_ hb6 hw6_
        have c6_0_0 := Mem.cell (v := .int .i64 k) M6.1 0 rfl
        have c6_0_1 := Mem.cell (v := .int .i64 n) M6.1 1 rfl
        have c6_0_2 := Mem.cell (v := .string m) M6.1 2 rfl
        have c6_0_3 := Mem.cell (v := .string S8) M6.1 3 rfl
        have c6_0_4 := Mem.cell (v := .string I8) M6.1 4 rfl
        have z6_0 := Mem.lt M6.1
        go_wp2_with fail
        go_ret
        exact ⟨rfl, hB6⟩
    | true =>
      simp only [Bool.and_true, Bool.and_false, Bool.true_and, Bool.false_and] at hr hh
      cases be <;> cases R
      all_goals
        go_enter Tryd.func5, Tryd.ntmps5
        have hB0 := Below.refl w.heap.size w
        have M0 := Mem.nil w
        have hw0 := hw
        go_wp2_with fail
        refine Calls.named ?_
        intro W1 hW1
        have hB1_ : Below w.heap.size w W1 := by rw [hW1]; exact (below_al hB0 _)
        have hw1_ : LaidV W1 := by rw [hW1]; exact (hw.alloc _)
        have M1_ := (M0).new' (w.heap.size) (by rfl) (.cells #[.int .i64 k, .int .i64 n, .string m, .string s, .string i] 26)
        rw [← hW1] at M1_
        clear hW1
        have ZZ1_0 := Lib.hid (Mem.lt M1_.1)
        refine (vexamples_any _ hw1_).mono ?_
        rintro e w1 ⟨rfl, hb1⟩
        have hB1 := below_then hB1_ hb1
        have hw1 := hw1_.below hb1
        have M1 := M1_.below hb1
        clear M1_ hB1_ hb1 hw1_
        have c1_0_0 := Mem.cell (v := .int .i64 k) M1.1 0 rfl
        have c1_0_1 := Mem.cell (v := .int .i64 n) M1.1 1 rfl
        have c1_0_2 := Mem.cell (v := .string m) M1.1 2 rfl
        have c1_0_3 := Mem.cell (v := .string s) M1.1 3 rfl
        have c1_0_4 := Mem.cell (v := .string i) M1.1 4 rfl
        have z1_0 := Mem.lt M1.1
        go_wp2_with fail
        refine Calls.named ?_
        intro W2 hW2
        have hB2_ : Below w.heap.size w W2 := by rw [hW2]; exact hB1
        have hw2_ : LaidV W2 := by rw [hW2]; exact hw1
        have M2_ := M1
        rw [← hW2] at M2_
        clear hW2
        have ZZ2_0 := Lib.hid (Mem.lt M2_.1)
        clear c1_0_0 c1_0_1 c1_0_2 c1_0_3 c1_0_4 z1_0
        refine (hf _).mono ?_
        rintro e w2 ⟨rfl, hb2⟩
        have hB2 := below_then hB2_ hb2
        have hw2 := hw2_.below hb2
        have M2 := M2_.below hb2
        clear M2_ hB2_ hb2 hw2_
        have c2_0_0 := Mem.cell (v := .int .i64 k) M2.1 0 rfl
        have c2_0_1 := Mem.cell (v := .int .i64 n) M2.1 1 rfl
        have c2_0_2 := Mem.cell (v := .string m) M2.1 2 rfl
        have c2_0_3 := Mem.cell (v := .string s) M2.1 3 rfl
        have c2_0_4 := Mem.cell (v := .string i) M2.1 4 rfl
        have z2_0 := Mem.lt M2.1
        have f2 := fun j => Mem.free M2.1 j
        go_upto_region 5 with (fail)
        have hX2 : (w2.setCells (w.heap.size) 0 [.int .i64 k, .int .i64 n, .string m, .string S8, .string I8]).heap[w.heap.size]? = some (.cells #[.int .i64 k, .int .i64 n, .string m, .string S8, .string I8] 26) := by rw [setCells_block [.int .i64 k, .int .i64 n, .string m, .string S8, .string I8] 0 _ _ (M2).1 (by simp)]; rfl
        have hY2 := below_setCells (B := w.heap.size) hB2 (b := w.heap.size) (by have := hB2.size; omega) 0 [.int .i64 k, .int .i64 n, .string m, .string S8, .string I8]
        refine wp_named ?_
        intro w3 hW3
        have hB3 : Below w.heap.size w w3 := by rw [hW3]; exact hY2
        have hw3 : LaidV w3 := hw0.below hB3
        have M3 : Mem w3 [(w.heap.size, .cells #[.int .i64 k, .int .i64 n, .string m, .string S8, .string I8] 26)] := by rw [hW3]; exact ⟨hX2, trivial⟩
        clear c2_0_0 c2_0_1 c2_0_2 c2_0_3 c2_0_4 z2_0
        clear hW3 hX2 hY2
        have c3_0_0 := Mem.cell (v := .int .i64 k) M3.1 0 rfl
        have c3_0_1 := Mem.cell (v := .int .i64 n) M3.1 1 rfl
        have c3_0_2 := Mem.cell (v := .string m) M3.1 2 rfl
        have c3_0_3 := Mem.cell (v := .string S8) M3.1 3 rfl
        have c3_0_4 := Mem.cell (v := .string I8) M3.1 4 rfl
        have z3_0 := Mem.lt M3.1
        go_wp2_with fail
        refine Calls.named ?_
        intro W4 hW4
        have hB4_ : Below w.heap.size w W4 := by rw [hW4]; exact hB3
        have hw4_ : LaidV W4 := by rw [hW4]; exact hw3
        have M4_ := M3
        rw [← hW4] at M4_
        clear hW4
        have ZZ4_0 := Lib.hid (Mem.lt M4_.1)
        clear c3_0_0 c3_0_1 c3_0_2 c3_0_3 c3_0_4 z3_0
        refine (hnm _ hw4_).mono ?_
        rintro e w4 ⟨rfl, hb4⟩
        have hB4 := below_then hB4_ hb4
        have hw4 := hw4_.below hb4
        have M4 := M4_.below hb4
        clear M4_ hB4_ hb4 hw4_
        have c4_0_0 := Mem.cell (v := .int .i64 k) M4.1 0 rfl
        have c4_0_1 := Mem.cell (v := .int .i64 n) M4.1 1 rfl
        have c4_0_2 := Mem.cell (v := .string m) M4.1 2 rfl
        have c4_0_3 := Mem.cell (v := .string S8) M4.1 3 rfl
        have c4_0_4 := Mem.cell (v := .string I8) M4.1 4 rfl
        have z4_0 := Mem.lt M4.1
        go_wp2_with fail
        refine Calls.named ?_
        intro W5 hW5
        have hB5_ : Below w.heap.size w W5 := by rw [hW5]; exact hB4
        have hw5_ : LaidV W5 := by rw [hW5]; exact hw4
        have M5_ := M4
        rw [← hW5] at M5_
        clear hW5
        have ZZ5_0 := Lib.hid (Mem.lt M5_.1)
        clear c4_0_0 c4_0_1 c4_0_2 c4_0_3 c4_0_4 z4_0
        refine (hl _).mono ?_
        rintro e w5 ⟨rfl, hb5⟩
        have hB5 := below_then hB5_ hb5
        have hw5 := hw5_.below hb5
        have M5 := M5_.below hb5
        clear M5_ hB5_ hb5 hw5_
        have c5_0_0 := Mem.cell (v := .int .i64 k) M5.1 0 rfl
        have c5_0_1 := Mem.cell (v := .int .i64 n) M5.1 1 rfl
        have c5_0_2 := Mem.cell (v := .string m) M5.1 2 rfl
        have c5_0_3 := Mem.cell (v := .string S8) M5.1 3 rfl
        have c5_0_4 := Mem.cell (v := .string I8) M5.1 4 rfl
        have z5_0 := Mem.lt M5.1
        go_wp2_with fail
        refine Calls.named ?_
        intro W6 hW6
        have hB6_ : Below w.heap.size w W6 := by rw [hW6]; exact hB5
        have hw6_ : LaidV W6 := by rw [hW6]; exact hw5
        have M6_ := M5
        rw [← hW6] at M6_
        clear hW6
        have ZZ6_0 := Lib.hid (Mem.lt M6_.1)
        clear c5_0_0 c5_0_1 c5_0_2 c5_0_3 c5_0_4 z5_0
        refine (hr _ hw6_).mono ?_
        rintro e w6 ⟨rfl, hb6⟩
        have hB6 := below_then hB6_ hb6
        have hw6 := hw6_.below hb6
        have M6 := M6_.below hb6
        clear M6_ hB6_ hb6 hw6_
        have c6_0_0 := Mem.cell (v := .int .i64 k) M6.1 0 rfl
        have c6_0_1 := Mem.cell (v := .int .i64 n) M6.1 1 rfl
        have c6_0_2 := Mem.cell (v := .string m) M6.1 2 rfl
        have c6_0_3 := Mem.cell (v := .string S8) M6.1 3 rfl
        have c6_0_4 := Mem.cell (v := .string I8) M6.1 4 rfl
        have z6_0 := Mem.lt M6.1
        go_wp2_with fail
        refine Calls.named ?_
        intro W7 hW7
        have hB7_ : Below w.heap.size w W7 := by rw [hW7]; exact hB6
        have hw7_ : LaidV W7 := by rw [hW7]; exact hw6
        have M7_ := M6
        rw [← hW7] at M7_
        clear hW7
        have ZZ7_0 := Lib.hid (Mem.lt M7_.1)
        clear c6_0_0 c6_0_1 c6_0_2 c6_0_3 c6_0_4 z6_0
        refine (hh _ hw7_).mono ?_
        rintro e w7 ⟨rfl, hb7⟩
        have hB7 := below_then hB7_ hb7
        have hw7 := hw7_.below hb7
        have M7 := M7_.below hb7
        clear M7_ hB7_ hb7 hw7_
        have c7_0_0 := Mem.cell (v := .int .i64 k) M7.1 0 rfl
        have c7_0_1 := Mem.cell (v := .int .i64 n) M7.1 1 rfl
        have c7_0_2 := Mem.cell (v := .string m) M7.1 2 rfl
        have c7_0_3 := Mem.cell (v := .string S8) M7.1 3 rfl
        have c7_0_4 := Mem.cell (v := .string I8) M7.1 4 rfl
        have z7_0 := Mem.lt M7.1
        go_wp2_with fail
        go_ret
        exact ⟨rfl, hB7⟩
set_option maxRecDepth 100000 in
set_option maxHeartbeats 4000000 in
theorem vr0 (k n : Int) (hk1 : (k == 1) = false) (hk2 : (k == 2) = false) (be : Bool) (m s i S8 I8 : ByteArray) (w : World) (hw : LaidV w) (hf : ∀ w, Calls Tryd.prog 9 #[.agg #[.int .i64 k, .int .i64 n, .string m, .string s, .string i]] w fun e w' => e = .returned (.agg #[.int .i64 k, .int .i64 n, .string m, .string S8, .string I8]) ∧ Below w.heap.size w w') (hk : k < 1 ∨ 7 < k) (X : Bool) (hx : ∀ W, (binOp .eql 24 (.agg #[.string S8, .string I8]) (.agg #[.string ⟨#[]⟩, .string ⟨#[]⟩])).run Tryd.prog W = .ok (.bool X) W) (hm : m.toList.isEmpty = be) (hr : ∀ w, LaidV w → Calls Tryd.prog 10 #[.agg #[.int .i64 k, .int .i64 n, .string m, .string S8, .string I8]] w fun e w' => e = .returned (.bool false) ∧ Below w.heap.size w w') (hh : ∀ w, LaidV w → Calls Tryd.prog 16 #[.agg #[.int .i64 k, .int .i64 n, .string m, .string S8, .string I8]] w fun e w' => e = .returned (.bool false) ∧ Below w.heap.size w w') :
    Calls Tryd.prog 5 #[.agg #[.int .i64 k, .int .i64 n, .string m, .string s, .string i]] w fun e w' => e = .returned (.bool true) ∧ Below w.heap.size w w' := by
  rcases hk with hk | hk
  · have hk3 : k < 3 := by omega
    clear hk
    cases be
    all_goals
      go_enter Tryd.func5, Tryd.ntmps5
      have hB0 := Below.refl w.heap.size w
      have M0 := Mem.nil w
      have hw0 := hw
      go_wp2_with fail
      refine Calls.named ?_
      intro W1 hW1
      have hB1_ : Below w.heap.size w W1 := by rw [hW1]; exact (below_al hB0 _)
      have hw1_ : LaidV W1 := by rw [hW1]; exact (hw.alloc _)
      have M1_ := (M0).new' (w.heap.size) (by rfl) (.cells #[.int .i64 k, .int .i64 n, .string m, .string s, .string i] 26)
      rw [← hW1] at M1_
      clear hW1
      have ZZ1_0 := Lib.hid (Mem.lt M1_.1)
      refine (vexamples_any _ hw1_).mono ?_
      rintro e w1 ⟨rfl, hb1⟩
      have hB1 := below_then hB1_ hb1
      have hw1 := hw1_.below hb1
      have M1 := M1_.below hb1
      clear M1_ hB1_ hb1 hw1_
      have c1_0_0 := Mem.cell (v := .int .i64 k) M1.1 0 rfl
      have c1_0_1 := Mem.cell (v := .int .i64 n) M1.1 1 rfl
      have c1_0_2 := Mem.cell (v := .string m) M1.1 2 rfl
      have c1_0_3 := Mem.cell (v := .string s) M1.1 3 rfl
      have c1_0_4 := Mem.cell (v := .string i) M1.1 4 rfl
      have z1_0 := Mem.lt M1.1
      go_wp2_with fail
      refine Calls.named ?_
      intro W2 hW2
      have hB2_ : Below w.heap.size w W2 := by rw [hW2]; exact hB1
      have hw2_ : LaidV W2 := by rw [hW2]; exact hw1
      have M2_ := M1
      rw [← hW2] at M2_
      clear hW2
      have ZZ2_0 := Lib.hid (Mem.lt M2_.1)
      clear c1_0_0 c1_0_1 c1_0_2 c1_0_3 c1_0_4 z1_0
      refine (hf _).mono ?_
      rintro e w2 ⟨rfl, hb2⟩
      have hB2 := below_then hB2_ hb2
      have hw2 := hw2_.below hb2
      have M2 := M2_.below hb2
      clear M2_ hB2_ hb2 hw2_
      have c2_0_0 := Mem.cell (v := .int .i64 k) M2.1 0 rfl
      have c2_0_1 := Mem.cell (v := .int .i64 n) M2.1 1 rfl
      have c2_0_2 := Mem.cell (v := .string m) M2.1 2 rfl
      have c2_0_3 := Mem.cell (v := .string s) M2.1 3 rfl
      have c2_0_4 := Mem.cell (v := .string i) M2.1 4 rfl
      have z2_0 := Mem.lt M2.1
      have f2 := fun j => Mem.free M2.1 j
      go_upto_region 5 with (fail)
      have hX2 : (w2.setCells (w.heap.size) 0 [.int .i64 k, .int .i64 n, .string m, .string S8, .string I8]).heap[w.heap.size]? = some (.cells #[.int .i64 k, .int .i64 n, .string m, .string S8, .string I8] 26) := by rw [setCells_block [.int .i64 k, .int .i64 n, .string m, .string S8, .string I8] 0 _ _ (M2).1 (by simp)]; rfl
      have hY2 := below_setCells (B := w.heap.size) hB2 (b := w.heap.size) (by have := hB2.size; omega) 0 [.int .i64 k, .int .i64 n, .string m, .string S8, .string I8]
      refine wp_named ?_
      intro w3 hW3
      have hB3 : Below w.heap.size w w3 := by rw [hW3]; exact hY2
      have hw3 : LaidV w3 := hw0.below hB3
      have M3 : Mem w3 [(w.heap.size, .cells #[.int .i64 k, .int .i64 n, .string m, .string S8, .string I8] 26)] := by rw [hW3]; exact ⟨hX2, trivial⟩
      clear c2_0_0 c2_0_1 c2_0_2 c2_0_3 c2_0_4 z2_0
      clear hW3 hX2 hY2
      have c3_0_0 := Mem.cell (v := .int .i64 k) M3.1 0 rfl
      have c3_0_1 := Mem.cell (v := .int .i64 n) M3.1 1 rfl
      have c3_0_2 := Mem.cell (v := .string m) M3.1 2 rfl
      have c3_0_3 := Mem.cell (v := .string S8) M3.1 3 rfl
      have c3_0_4 := Mem.cell (v := .string I8) M3.1 4 rfl
      have z3_0 := Mem.lt M3.1
      go_wp2_with fail
      refine Calls.named ?_
      intro W4 hW4
      have hB4_ : Below w.heap.size w W4 := by rw [hW4]; exact hB3
      have hw4_ : LaidV W4 := by rw [hW4]; exact hw3
      have M4_ := M3
      rw [← hW4] at M4_
      clear hW4
      have ZZ4_0 := Lib.hid (Mem.lt M4_.1)
      clear c3_0_0 c3_0_1 c3_0_2 c3_0_3 c3_0_4 z3_0
      refine (hr _ hw4_).mono ?_
      rintro e w4 ⟨rfl, hb4⟩
      have hB4 := below_then hB4_ hb4
      have hw4 := hw4_.below hb4
      have M4 := M4_.below hb4
      clear M4_ hB4_ hb4 hw4_
      have c4_0_0 := Mem.cell (v := .int .i64 k) M4.1 0 rfl
      have c4_0_1 := Mem.cell (v := .int .i64 n) M4.1 1 rfl
      have c4_0_2 := Mem.cell (v := .string m) M4.1 2 rfl
      have c4_0_3 := Mem.cell (v := .string S8) M4.1 3 rfl
      have c4_0_4 := Mem.cell (v := .string I8) M4.1 4 rfl
      have z4_0 := Mem.lt M4.1
      go_wp2_with fail
      refine Calls.named ?_
      intro W5 hW5
      have hB5_ : Below w.heap.size w W5 := by rw [hW5]; exact hB4
      have hw5_ : LaidV W5 := by rw [hW5]; exact hw4
      have M5_ := M4
      rw [← hW5] at M5_
      clear hW5
      have ZZ5_0 := Lib.hid (Mem.lt M5_.1)
      clear c4_0_0 c4_0_1 c4_0_2 c4_0_3 c4_0_4 z4_0
      refine (hh _ hw5_).mono ?_
      rintro e w5 ⟨rfl, hb5⟩
      have hB5 := below_then hB5_ hb5
      have hw5 := hw5_.below hb5
      have M5 := M5_.below hb5
      clear M5_ hB5_ hb5 hw5_
      have c5_0_0 := Mem.cell (v := .int .i64 k) M5.1 0 rfl
      have c5_0_1 := Mem.cell (v := .int .i64 n) M5.1 1 rfl
      have c5_0_2 := Mem.cell (v := .string m) M5.1 2 rfl
      have c5_0_3 := Mem.cell (v := .string S8) M5.1 3 rfl
      have c5_0_4 := Mem.cell (v := .string I8) M5.1 4 rfl
      have z5_0 := Mem.lt M5.1
      go_wp2_with fail
      go_ret
      exact ⟨rfl, hB5⟩
  · have hk3 : 3 ≤ k := by omega
    cases be
    all_goals
      go_enter Tryd.func5, Tryd.ntmps5
      have hB0 := Below.refl w.heap.size w
      have M0 := Mem.nil w
      have hw0 := hw
      go_wp2_with fail
      refine Calls.named ?_
      intro W1 hW1
      have hB1_ : Below w.heap.size w W1 := by rw [hW1]; exact (below_al hB0 _)
      have hw1_ : LaidV W1 := by rw [hW1]; exact (hw.alloc _)
      have M1_ := (M0).new' (w.heap.size) (by rfl) (.cells #[.int .i64 k, .int .i64 n, .string m, .string s, .string i] 26)
      rw [← hW1] at M1_
      clear hW1
      have ZZ1_0 := Lib.hid (Mem.lt M1_.1)
      refine (vexamples_any _ hw1_).mono ?_
      rintro e w1 ⟨rfl, hb1⟩
      have hB1 := below_then hB1_ hb1
      have hw1 := hw1_.below hb1
      have M1 := M1_.below hb1
      clear M1_ hB1_ hb1 hw1_
      have c1_0_0 := Mem.cell (v := .int .i64 k) M1.1 0 rfl
      have c1_0_1 := Mem.cell (v := .int .i64 n) M1.1 1 rfl
      have c1_0_2 := Mem.cell (v := .string m) M1.1 2 rfl
      have c1_0_3 := Mem.cell (v := .string s) M1.1 3 rfl
      have c1_0_4 := Mem.cell (v := .string i) M1.1 4 rfl
      have z1_0 := Mem.lt M1.1
      go_wp2_with fail
      refine Calls.named ?_
      intro W2 hW2
      have hB2_ : Below w.heap.size w W2 := by rw [hW2]; exact hB1
      have hw2_ : LaidV W2 := by rw [hW2]; exact hw1
      have M2_ := M1
      rw [← hW2] at M2_
      clear hW2
      have ZZ2_0 := Lib.hid (Mem.lt M2_.1)
      clear c1_0_0 c1_0_1 c1_0_2 c1_0_3 c1_0_4 z1_0
      refine (hf _).mono ?_
      rintro e w2 ⟨rfl, hb2⟩
      have hB2 := below_then hB2_ hb2
      have hw2 := hw2_.below hb2
      have M2 := M2_.below hb2
      clear M2_ hB2_ hb2 hw2_
      have c2_0_0 := Mem.cell (v := .int .i64 k) M2.1 0 rfl
      have c2_0_1 := Mem.cell (v := .int .i64 n) M2.1 1 rfl
      have c2_0_2 := Mem.cell (v := .string m) M2.1 2 rfl
      have c2_0_3 := Mem.cell (v := .string s) M2.1 3 rfl
      have c2_0_4 := Mem.cell (v := .string i) M2.1 4 rfl
      have z2_0 := Mem.lt M2.1
      have f2 := fun j => Mem.free M2.1 j
      go_upto_region 5 with (fail)
      have hX2 : (w2.setCells (w.heap.size) 0 [.int .i64 k, .int .i64 n, .string m, .string S8, .string I8]).heap[w.heap.size]? = some (.cells #[.int .i64 k, .int .i64 n, .string m, .string S8, .string I8] 26) := by rw [setCells_block [.int .i64 k, .int .i64 n, .string m, .string S8, .string I8] 0 _ _ (M2).1 (by simp)]; rfl
      have hY2 := below_setCells (B := w.heap.size) hB2 (b := w.heap.size) (by have := hB2.size; omega) 0 [.int .i64 k, .int .i64 n, .string m, .string S8, .string I8]
      refine wp_named ?_
      intro w3 hW3
      have hB3 : Below w.heap.size w w3 := by rw [hW3]; exact hY2
      have hw3 : LaidV w3 := hw0.below hB3
      have M3 : Mem w3 [(w.heap.size, .cells #[.int .i64 k, .int .i64 n, .string m, .string S8, .string I8] 26)] := by rw [hW3]; exact ⟨hX2, trivial⟩
      clear c2_0_0 c2_0_1 c2_0_2 c2_0_3 c2_0_4 z2_0
      clear hW3 hX2 hY2
      have c3_0_0 := Mem.cell (v := .int .i64 k) M3.1 0 rfl
      have c3_0_1 := Mem.cell (v := .int .i64 n) M3.1 1 rfl
      have c3_0_2 := Mem.cell (v := .string m) M3.1 2 rfl
      have c3_0_3 := Mem.cell (v := .string S8) M3.1 3 rfl
      have c3_0_4 := Mem.cell (v := .string I8) M3.1 4 rfl
      have z3_0 := Mem.lt M3.1
      go_wp2_with fail
      refine Calls.named ?_
      intro W4 hW4
      have hB4_ : Below w.heap.size w W4 := by rw [hW4]; exact hB3
      have hw4_ : LaidV W4 := by rw [hW4]; exact hw3
      have M4_ := M3
      rw [← hW4] at M4_
      clear hW4
      have ZZ4_0 := Lib.hid (Mem.lt M4_.1)
      clear c3_0_0 c3_0_1 c3_0_2 c3_0_3 c3_0_4 z3_0
      refine (hr _ hw4_).mono ?_
      rintro e w4 ⟨rfl, hb4⟩
      have hB4 := below_then hB4_ hb4
      have hw4 := hw4_.below hb4
      have M4 := M4_.below hb4
      clear M4_ hB4_ hb4 hw4_
      have c4_0_0 := Mem.cell (v := .int .i64 k) M4.1 0 rfl
      have c4_0_1 := Mem.cell (v := .int .i64 n) M4.1 1 rfl
      have c4_0_2 := Mem.cell (v := .string m) M4.1 2 rfl
      have c4_0_3 := Mem.cell (v := .string S8) M4.1 3 rfl
      have c4_0_4 := Mem.cell (v := .string I8) M4.1 4 rfl
      have z4_0 := Mem.lt M4.1
      go_wp2_with fail
      refine Calls.named ?_
      intro W5 hW5
      have hB5_ : Below w.heap.size w W5 := by rw [hW5]; exact hB4
      have hw5_ : LaidV W5 := by rw [hW5]; exact hw4
      have M5_ := M4
      rw [← hW5] at M5_
      clear hW5
      have ZZ5_0 := Lib.hid (Mem.lt M5_.1)
      clear c4_0_0 c4_0_1 c4_0_2 c4_0_3 c4_0_4 z4_0
      refine (hh _ hw5_).mono ?_
      rintro e w5 ⟨rfl, hb5⟩
      have hB5 := below_then hB5_ hb5
      have hw5 := hw5_.below hb5
      have M5 := M5_.below hb5
      clear M5_ hB5_ hb5 hw5_
      have c5_0_0 := Mem.cell (v := .int .i64 k) M5.1 0 rfl
      have c5_0_1 := Mem.cell (v := .int .i64 n) M5.1 1 rfl
      have c5_0_2 := Mem.cell (v := .string m) M5.1 2 rfl
      have c5_0_3 := Mem.cell (v := .string S8) M5.1 3 rfl
      have c5_0_4 := Mem.cell (v := .string I8) M5.1 4 rfl
      have z5_0 := Mem.lt M5.1
      go_wp2_with fail
      go_ret
      exact ⟨rfl, hB5⟩
theorem valRight_walk (k n : Int) (m s i : ByteArray) (_ : InI64 n) (hz : m.size ≤ 140737488351232 ∧ s.size ≤ 140737488351232 ∧ i.size ≤ 140737488351232) (w : World) (hw : LaidV w) :
    Calls Tryd.prog 5 #[.agg #[.int .i64 k, .int .i64 n, .string m, .string s, .string i]] w fun e w' => e = .returned (.bool true) ∧ Below w.heap.size w w' := by
  have c1 := cut8_size s
  have c2 := cut8_size i
  have hf := fun w => few_any k n m s i w
  have hr := fun w hw => vright_any k n m (cut8 s) (cut8 i) hz.1 (by omega) (by omega) w hw
  have hh := fun w hw => vhandle_any k n m (cut8 s) (cut8 i) hz.1 (by omega) (by omega) w hw
  have hl := fun w => lright_any (cut8 s) (cut8 i) (by omega) (by omega) w
  have hnm := fun w hw => nright_v m w hz.1 hw
  by_cases k1 : k = 1
  · subst k1
    rw [right1] at hr
    have e : decide ((3 : Int) ≤ 1) = false := by decide
    rw [e, Bool.false_and] at hh
    exact vr1 n _ m s i _ _ w hw hf _ (eql_label_zero' _ _) rfl hr hh
  · have hk1 := int_ne k1
    by_cases k2 : k = 2
    · subst k2
      rw [right2] at hr
      have e : decide ((3 : Int) ≤ 2) = false := by decide
      rw [e, Bool.false_and] at hh
      exact vr2 n _ _ _ m s i _ _ w hw hf _ (eql_label_zero' _ _) rfl rfl hl hr hh
    · have hk2 := int_ne k2
      by_cases k3 : 3 ≤ k ∧ k ≤ 7
      · rw [right3 k3.1 k3.2] at hr hh
        rw [decide_eq_true k3.1, Bool.true_and] at hh
        exact vr3 k n hk1 hk2 k3.1 k3.2 _ _ _ _ m s i _ _ w hw hf _ (eql_label_zero' _ _) rfl rfl hnm hl hr hh
      · rw [right0 (by omega)] at hr hh
        rw [Bool.and_false] at hh
        exact vr0 k n hk1 hk2 _ m s i _ _ w hw hf (by omega) _ (eql_label_zero' _ _) rfl hr hh
end Go.Proofs.YtcgelcccboifjaaDoor
