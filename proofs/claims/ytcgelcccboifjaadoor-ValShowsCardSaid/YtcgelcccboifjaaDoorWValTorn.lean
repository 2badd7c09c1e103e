/- Of what is put of a right value no beginning is got, nor what stands one byte further on as the same. The walk: the law answers true; no memory that was there is turned. Conditions: a string has at most 140737488351232 bytes, the listed package variables hold what the program's text lays. -/
import Derived.Test.YtcgelcccboifjaaDoorWValOnce
namespace Go.Proofs.YtcgelcccboifjaaDoor
open Go.RowKit
theorem cut8_size (s : ByteArray) : (cut8 s).size ≤ 8 := by unfold cut8; rw [ByteArray.size_extract]; omega
def VA (k n : Int) (m s i : ByteArray) : Value := .agg #[.int .i64 k, .int .i64 n, .string m, .string s, .string i]
set_option maxRecDepth 100000 in
set_option maxHeartbeats 1000000 in
theorem torn_no (k n : Int) (m s i S8 I8 : ByteArray) (cut : Int) (w : World) (hw : LaidV w)
    (hf : ∀ w, Calls Tryd.prog 9 #[.agg #[.int .i64 k, .int .i64 n, .string m, .string s, .string i]] w fun e w' => e = .returned (.agg #[.int .i64 k, .int .i64 n, .string m, .string S8, .string I8]) ∧ Below w.heap.size w w')
    (hr : ∀ w, LaidV w → Calls Tryd.prog 10 #[.agg #[.int .i64 k, .int .i64 n, .string m, .string S8, .string I8]] w fun e w' => e = .returned (.bool false) ∧ Below w.heap.size w w') :
    Calls Tryd.prog 6 #[.agg #[.int .i64 k, .int .i64 n, .string m, .string s, .string i], .int .u8 cut] w fun e w' => e = .returned (.bool true) ∧ Below w.heap.size w w' := by
  go_enter Tryd.func6, Tryd.ntmps6
  have hB0 := Below.refl w.heap.size w
  have M0 := Mem.nil w
  have hw0 := hw
  go_wp2_with fail
  refine Calls.named ?_
  intro W1 hW1
  have hB1_ : Below w.heap.size w W1 := by rw [hW1]; exact (below_al hB0 _)
  have hw1_ : LaidV W1 := by rw [hW1]; exact (hw.alloc _)
  have M1_ := (M0).new' (w.heap.size) (by rfl) (.cells #[.int .i64 k, .int .i64 n, .string m, .string s, .string i] 26)
  rw [← hW1] at M1_
  clear hW1
  have ZZ1_0 := Lib.hid (Mem.lt M1_.1)
  refine (vexamples_any _ hw1_).mono ?_
  rintro e w1 ⟨rfl, hb1⟩
  have hB1 := below_then hB1_ hb1
  have hw1 := hw1_.below hb1
  have M1 := M1_.below hb1
  clear M1_ hB1_ hb1 hw1_
  have c1_0_0 := Mem.cell (v := .int .i64 k) M1.1 0 rfl
  have c1_0_1 := Mem.cell (v := .int .i64 n) M1.1 1 rfl
  have c1_0_2 := Mem.cell (v := .string m) M1.1 2 rfl
  have c1_0_3 := Mem.cell (v := .string s) M1.1 3 rfl
  have c1_0_4 := Mem.cell (v := .string i) M1.1 4 rfl
  have z1_0 := Mem.lt M1.1
  go_wp2_with fail
  refine Calls.named ?_
  intro W2 hW2
  have hB2_ : Below w.heap.size w W2 := by rw [hW2]; exact hB1
  have hw2_ : LaidV W2 := by rw [hW2]; exact hw1
  have M2_ := M1
  rw [← hW2] at M2_
  clear hW2
  have ZZ2_0 := Lib.hid (Mem.lt M2_.1)
  clear c1_0_0 c1_0_1 c1_0_2 c1_0_3 c1_0_4 z1_0
  refine (hf _).mono ?_
  rintro e w2 ⟨rfl, hb2⟩
  have hB2 := below_then hB2_ hb2
  have hw2 := hw2_.below hb2
  have M2 := M2_.below hb2
  clear M2_ hB2_ hb2 hw2_
  have c2_0_0 := Mem.cell (v := .int .i64 k) M2.1 0 rfl
  have c2_0_1 := Mem.cell (v := .int .i64 n) M2.1 1 rfl
  have c2_0_2 := Mem.cell (v := .string m) M2.1 2 rfl
  have c2_0_3 := Mem.cell (v := .string s) M2.1 3 rfl
  have c2_0_4 := Mem.cell (v := .string i) M2.1 4 rfl
  have z2_0 := Mem.lt M2.1
  have f2 := fun j => Mem.free M2.1 j
  go_upto_region 5 with (fail)
  have hX2 : (w2.setCells (w.heap.size) 0 [.int .i64 k, .int .i64 n, .string m, .string S8, .string I8]).heap[w.heap.size]? = some (.cells #[.int .i64 k, .int .i64 n, .string m, .string S8, .string I8] 26) := by rw [setCells_block [.int .i64 k, .int .i64 n, .string m, .string S8, .string I8] 0 _ _ (M2).1 (by simp)]; rfl
  have hY2 := below_setCells (B := w.heap.size) hB2 (b := w.heap.size) (by have := hB2.size; omega) 0 [.int .i64 k, .int .i64 n, .string m, .string S8, .string I8]
  refine wp_named ?_
  intro w3 hW3
  have hB3 : Below w.heap.size w w3 := by rw [hW3]; exact hY2
  have hw3 : LaidV w3 := hw0.below hB3
  have M3 : Mem w3 [(w.heap.size, .cells #[.int .i64 k, .int .i64 n, .string m, .string S8, .string I8] 26)] := by rw [hW3]; exact ⟨hX2, trivial⟩
  clear c2_0_0 c2_0_1 c2_0_2 c2_0_3 c2_0_4 z2_0
  clear hW3 hX2 hY2
  have c3_0_0 := Mem.cell (v := .int .i64 k) M3.1 0 rfl
  have c3_0_1 := Mem.cell (v := .int .i64 n) M3.1 1 rfl
  have c3_0_2 := Mem.cell (v := .string m) M3.1 2 rfl
  have c3_0_3 := Mem.cell (v := .string S8) M3.1 3 rfl
  have c3_0_4 := Mem.cell (v := .string I8) M3.1 4 rfl
  have z3_0 := Mem.lt M3.1
  go_wp2_with fail
  refine Calls.named ?_
  intro W4 hW4
  have hB4_ : Below w.heap.size w W4 := by rw [hW4]; exact hB3
  have hw4_ : LaidV W4 := by rw [hW4]; exact hw3
  have M4_ := M3
  rw [← hW4] at M4_
  clear hW4
  have ZZ4_0 := Lib.hid (Mem.lt M4_.1)
  clear c3_0_0 c3_0_1 c3_0_2 c3_0_3 c3_0_4 z3_0
  refine (hr _ hw4_).mono ?_
  rintro e w4 ⟨rfl, hb4⟩
  have hB4 := below_then hB4_ hb4
  have hw4 := hw4_.below hb4
  have M4 := M4_.below hb4
  clear M4_ hB4_ hb4 hw4_
  have c4_0_0 := Mem.cell (v := .int .i64 k) M4.1 0 rfl
  have c4_0_1 := Mem.cell (v := .int .i64 n) M4.1 1 rfl
  have c4_0_2 := Mem.cell (v := .string m) M4.1 2 rfl
  have c4_0_3 := Mem.cell (v := .string S8) M4.1 3 rfl
  have c4_0_4 := Mem.cell (v := .string I8) M4.1 4 rfl
  have z4_0 := Mem.lt M4.1
  go_wp2_with fail
  go_ret
  exact ⟨rfl, hB4⟩
set_option maxRecDepth 100000 in
set_option maxHeartbeats 2000000 in
theorem torn_yes (k n : Int) (m s i S8 I8 : ByteArray) (cut : Nat) (P T P0 : ByteArray) (w : World) (hw : LaidV w) (hcut : cut ≤ 255) (hP1 : 1 ≤ P.size) (hP2 : P.size ≤ 240) (hT : T = P.extract 0 (P.size - 1 - cut % P.size)) (hP0 : ⟨#[0]⟩ ++ P = P0)
    (hf : ∀ w, Calls Tryd.prog 9 #[.agg #[.int .i64 k, .int .i64 n, .string m, .string s, .string i]] w fun e w' => e = .returned (.agg #[.int .i64 k, .int .i64 n, .string m, .string S8, .string I8]) ∧ Below w.heap.size w w')
    (hr : ∀ w, LaidV w → Calls Tryd.prog 10 #[.agg #[.int .i64 k, .int .i64 n, .string m, .string S8, .string I8]] w fun e w' => e = .returned (.bool true) ∧ Below w.heap.size w w')
    (hq : ∀ w, LaidV w → Calls Tryd.prog 11 #[.agg #[.int .i64 k, .int .i64 n, .string m, .string S8, .string I8]] w fun e w' => e = .returned (.string P) ∧ Below w.heap.size w w')
    (g1 : ∀ w, LaidV w → Calls Tryd.prog 13 #[.string T, .int .i64 0] w fun e w' => e = vgetE none 0 ∧ Below w.heap.size w w')
    (g2 : ∀ w, LaidV w → Calls Tryd.prog 13 #[.string P, .int .i64 (-1)] w fun e w' => e = vgetE none 0 ∧ Below w.heap.size w w')
    (g3 : ∀ w, LaidV w → Calls Tryd.prog 13 #[.string P, .int .i64 P.size] w fun e w' => e = vgetE none 0 ∧ Below w.heap.size w w')
    (x : Int) (g4 : ∀ w, LaidV w → Calls Tryd.prog 13 #[.string P0, .int .i64 1] w fun e w' => e = .returned (.tuple #[.agg #[.int .i64 k, .int .i64 n, .string m, .string S8, .string I8], .int .i64 x, .bool true]) ∧ Below w.heap.size w w')
    (g5 : ∀ w, LaidV w → Calls Tryd.prog 13 #[.string P0, .int .i64 0] w fun e w' => e = vgetE none 0 ∧ Below w.heap.size w w') :
    Calls Tryd.prog 6 #[.agg #[.int .i64 k, .int .i64 n, .string m, .string s, .string i], .int .u8 cut] w fun e w' => e = .returned (.bool true) ∧ Below w.heap.size w w' := by
  obtain ⟨j, hj⟩ : ∃ j, j = P.size - 1 - cut % P.size := ⟨_, rfl⟩
  have hmod : cut % P.size < P.size := Nat.mod_lt _ (by omega)
  have hjw : wrap64 ((P.size : Int) - 1 - (cut : Int) % (P.size : Int)) = (j : Int) := by
    have e : (cut : Int) % (P.size : Int) = ((cut % P.size : Nat) : Int) := rfl
    rw [e, hj]
    have h2 : ((P.size - 1 - cut % P.size : Nat) : Int) = (P.size : Int) - 1 - ((cut % P.size : Nat) : Int) := by omega
    rw [← h2]
    first | exact IntWalk.i64_in _ (by omega) | (simp [wrap64]; omega)
  rw [← hj] at hT
  have hjl : j ≤ P.size := by omega
  have hsl : ∀ W, (Instr.slice 9 (.string P) none (some (.int .i64 (j : Int))) none).run Tryd.prog W = .ok (.string T) W := fun W => by
    rw [run_slice_string_h (P := Tryd.prog) (w := W) 9 P Tryd.underlying9 .i64 (j : Int) (by omega) (by omega), hT]
    rfl
  have HP0 := Lib.hid hP0
  have hp0s : P.size + 1 ≤ 250 := by omega
  clear hj hT hmod hP0
  dsimp only [vgetE] at g1 g2 g3 g5
  go_enter Tryd.func6, Tryd.ntmps6
  have hB0 := Below.refl w.heap.size w
  have M0 := Mem.nil w
  have hw0 := hw
  go_wp2_with fail
  refine Calls.named ?_
  intro W1 hW1
  have hB1_ : Below w.heap.size w W1 := by rw [hW1]; exact (below_al hB0 _)
  have hw1_ : LaidV W1 := by rw [hW1]; exact (hw.alloc _)
  have M1_ := (M0).new' (w.heap.size) (by rfl) (.cells #[.int .i64 k, .int .i64 n, .string m, .string s, .string i] 26)
  rw [← hW1] at M1_
  clear hW1
  have ZZ1_0 := Lib.hid (Mem.lt M1_.1)
  refine (vexamples_any _ hw1_).mono ?_
  rintro e w1 ⟨rfl, hb1⟩
  have hB1 := below_then hB1_ hb1
  have hw1 := hw1_.below hb1
  have M1 := M1_.below hb1
  clear M1_ hB1_ hb1 hw1_
  have c1_0_0 := Mem.cell (v := .int .i64 k) M1.1 0 rfl
  have c1_0_1 := Mem.cell (v := .int .i64 n) M1.1 1 rfl
  have c1_0_2 := Mem.cell (v := .string m) M1.1 2 rfl
  have c1_0_3 := Mem.cell (v := .string s) M1.1 3 rfl
  have c1_0_4 := Mem.cell (v := .string i) M1.1 4 rfl
  have z1_0 := Mem.lt M1.1
  go_wp2_with fail
  refine Calls.named ?_
  intro W2 hW2
  have hB2_ : Below w.heap.size w W2 := by rw [hW2]; exact hB1
  have hw2_ : LaidV W2 := by rw [hW2]; exact hw1
  have M2_ := M1
  rw [← hW2] at M2_
  clear hW2
  have ZZ2_0 := Lib.hid (Mem.lt M2_.1)
  clear c1_0_0 c1_0_1 c1_0_2 c1_0_3 c1_0_4 z1_0
  refine (hf _).mono ?_
  rintro e w2 ⟨rfl, hb2⟩
  have hB2 := below_then hB2_ hb2
  have hw2 := hw2_.below hb2
  have M2 := M2_.below hb2
  clear M2_ hB2_ hb2 hw2_
  have c2_0_0 := Mem.cell (v := .int .i64 k) M2.1 0 rfl
  have c2_0_1 := Mem.cell (v := .int .i64 n) M2.1 1 rfl
  have c2_0_2 := Mem.cell (v := .string m) M2.1 2 rfl
  have c2_0_3 := Mem.cell (v := .string s) M2.1 3 rfl
  have c2_0_4 := Mem.cell (v := .string i) M2.1 4 rfl
  have z2_0 := Mem.lt M2.1
  have f2 := fun j => Mem.free M2.1 j
  go_upto_region 5 with (fail)
  have hX2 : (w2.setCells (w.heap.size) 0 [.int .i64 k, .int .i64 n, .string m, .string S8, .string I8]).heap[w.heap.size]? = some (.cells #[.int .i64 k, .int .i64 n, .string m, .string S8, .string I8] 26) := by rw [setCells_block [.int .i64 k, .int .i64 n, .string m, .string S8, .string I8] 0 _ _ (M2).1 (by simp)]; rfl
  have hY2 := below_setCells (B := w.heap.size) hB2 (b := w.heap.size) (by have := hB2.size; omega) 0 [.int .i64 k, .int .i64 n, .string m, .string S8, .string I8]
  refine wp_named ?_
  intro w3 hW3
  have hB3 : Below w.heap.size w w3 := by rw [hW3]; exact hY2
  have hw3 : LaidV w3 := hw0.below hB3
  have M3 : Mem w3 [(w.heap.size, .cells #[.int .i64 k, .int .i64 n, .string m, .string S8, .string I8] 26)] := by rw [hW3]; exact ⟨hX2, trivial⟩
  clear c2_0_0 c2_0_1 c2_0_2 c2_0_3 c2_0_4 z2_0
  clear hW3 hX2 hY2
  have c3_0_0 := Mem.cell (v := .int .i64 k) M3.1 0 rfl
  have c3_0_1 := Mem.cell (v := .int .i64 n) M3.1 1 rfl
  have c3_0_2 := Mem.cell (v := .string m) M3.1 2 rfl
  have c3_0_3 := Mem.cell (v := .string S8) M3.1 3 rfl
  have c3_0_4 := Mem.cell (v := .string I8) M3.1 4 rfl
  have z3_0 := Mem.lt M3.1
  go_wp2_with fail
  refine Calls.named ?_
  intro W4 hW4
  have hB4_ : Below w.heap.size w W4 := by rw [hW4]; exact hB3
  have hw4_ : LaidV W4 := by rw [hW4]; exact hw3
  have M4_ := M3
  rw [← hW4] at M4_
  clear hW4
  have ZZ4_0 := Lib.hid (Mem.lt M4_.1)
  clear c3_0_0 c3_0_1 c3_0_2 c3_0_3 c3_0_4 z3_0
  refine (hr _ hw4_).mono ?_
  rintro e w4 ⟨rfl, hb4⟩
  have hB4 := below_then hB4_ hb4
  have hw4 := hw4_.below hb4
  have M4 := M4_.below hb4
  clear M4_ hB4_ hb4 hw4_
  have c4_0_0 := Mem.cell (v := .int .i64 k) M4.1 0 rfl
  have c4_0_1 := Mem.cell (v := .int .i64 n) M4.1 1 rfl
  have c4_0_2 := Mem.cell (v := .string m) M4.1 2 rfl
  have c4_0_3 := Mem.cell (v := .string S8) M4.1 3 rfl
  have c4_0_4 := Mem.cell (v := .string I8) M4.1 4 rfl
  have z4_0 := Mem.lt M4.1
  go_wp2_with fail
  refine Calls.named ?_
  intro W5 hW5
  have hB5_ : Below w.heap.size w W5 := by rw [hW5]; exact hB4
  have hw5_ : LaidV W5 := by rw [hW5]; exact hw4
  have M5_ := M4
  rw [← hW5] at M5_
  clear hW5
  have ZZ5_0 := Lib.hid (Mem.lt M5_.1)
  clear c4_0_0 c4_0_1 c4_0_2 c4_0_3 c4_0_4 z4_0
  refine (hq _ hw5_).mono ?_
  rintro e w5 ⟨rfl, hb5⟩
  have hB5 := below_then hB5_ hb5
  have hw5 := hw5_.below hb5
  have M5 := M5_.below hb5
  clear M5_ hB5_ hb5 hw5_
  have c5_0_0 := Mem.cell (v := .int .i64 k) M5.1 0 rfl
  have c5_0_1 := Mem.cell (v := .int .i64 n) M5.1 1 rfl
  have c5_0_2 := Mem.cell (v := .string m) M5.1 2 rfl
  have c5_0_3 := Mem.cell (v := .string S8) M5.1 3 rfl
  have c5_0_4 := Mem.cell (v := .string I8) M5.1 4 rfl
  have z5_0 := Mem.lt M5.1
  go_wp2_with fail
  refine Calls.named ?_
  intro W6 hW6
  have hB6_ : Below w.heap.size w W6 := by rw [hW6]; exact hB5
  have hw6_ : LaidV W6 := by rw [hW6]; exact hw5
  have M6_ := M5
  rw [← hW6] at M6_
  clear hW6
  have ZZ6_0 := Lib.hid (Mem.lt M6_.1)
  clear c5_0_0 c5_0_1 c5_0_2 c5_0_3 c5_0_4 z5_0
  refine (g1 _ hw6_).mono ?_
  rintro e w6 ⟨rfl, hb6⟩
  have hB6 := below_then hB6_ hb6
  have hw6 := hw6_.below hb6
  have M6 := M6_.below hb6
  clear M6_ hB6_ hb6 hw6_
  have c6_0_0 := Mem.cell (v := .int .i64 k) M6.1 0 rfl
  have c6_0_1 := Mem.cell (v := .int .i64 n) M6.1 1 rfl
  have c6_0_2 := Mem.cell (v := .string m) M6.1 2 rfl
  have c6_0_3 := Mem.cell (v := .string S8) M6.1 3 rfl
  have c6_0_4 := Mem.cell (v := .string I8) M6.1 4 rfl
  have z6_0 := Mem.lt M6.1
  go_wp2_with fail
  refine Calls.named ?_
  intro W7 hW7
  have hB7_ : Below w.heap.size w W7 := by rw [hW7]; exact (below_al hB6 _)
  have hw7_ : LaidV W7 := by rw [hW7]; exact (hw6.alloc _)
  have M7_ := (M6).new' (w6.heap.size) (by rfl) (.cells #[.int .i64 0, .int .i64 0, .string ⟨#[]⟩, .string ⟨#[]⟩, .string ⟨#[]⟩] 26)
  rw [← hW7] at M7_
  clear hW7
  have ZZ7_0 := Lib.hid (Mem.lt M7_.1)
  have ZZ7_1 := Lib.hid (Mem.lt M7_.2.1)
  clear c6_0_0 c6_0_1 c6_0_2 c6_0_3 c6_0_4 z6_0
  refine (g2 _ hw7_).mono ?_
  rintro e w7 ⟨rfl, hb7⟩
  have hB7 := below_then hB7_ hb7
  have hw7 := hw7_.below hb7
  have M7 := M7_.below hb7
  clear M7_ hB7_ hb7 hw7_
  have c7_0_0 := Mem.cell (v := .int .i64 0) M7.1 0 rfl
  have c7_0_1 := Mem.cell (v := .int .i64 0) M7.1 1 rfl
  have c7_0_2 := Mem.cell (v := .string ⟨#[]⟩) M7.1 2 rfl
  have c7_0_3 := Mem.cell (v := .string ⟨#[]⟩) M7.1 3 rfl
  have c7_0_4 := Mem.cell (v := .string ⟨#[]⟩) M7.1 4 rfl
  have z7_0 := Mem.lt M7.1
  have c7_1_0 := Mem.cell (v := .int .i64 k) M7.2.1 0 rfl
  have c7_1_1 := Mem.cell (v := .int .i64 n) M7.2.1 1 rfl
  have c7_1_2 := Mem.cell (v := .string m) M7.2.1 2 rfl
  have c7_1_3 := Mem.cell (v := .string S8) M7.2.1 3 rfl
  have c7_1_4 := Mem.cell (v := .string I8) M7.2.1 4 rfl
  have z7_1 := Mem.lt M7.2.1
  go_wp2_with fail
  refine Calls.named ?_
  intro W8 hW8
  have hB8_ : Below w.heap.size w W8 := by rw [hW8]; exact (below_al hB7 _)
  have hw8_ : LaidV W8 := by rw [hW8]; exact (hw7.alloc _)
  have M8_ := (M7).new' (w7.heap.size) (by rfl) (.cells #[.int .i64 0, .int .i64 0, .string ⟨#[]⟩, .string ⟨#[]⟩, .string ⟨#[]⟩] 26)
  rw [← hW8] at M8_
  clear hW8
  have ZZ8_0 := Lib.hid (Mem.lt M8_.1)
  have ZZ8_1 := Lib.hid (Mem.lt M8_.2.1)
  have ZZ8_2 := Lib.hid (Mem.lt M8_.2.2.1)
  clear c7_0_0 c7_0_1 c7_0_2 c7_0_3 c7_0_4 z7_0 c7_1_0 c7_1_1 c7_1_2 c7_1_3 c7_1_4 z7_1
  refine (g3 _ hw8_).mono ?_
  rintro e w8 ⟨rfl, hb8⟩
  have hB8 := below_then hB8_ hb8
  have hw8 := hw8_.below hb8
  have M8 := M8_.below hb8
  clear M8_ hB8_ hb8 hw8_
  have c8_0_0 := Mem.cell (v := .int .i64 0) M8.1 0 rfl
  have c8_0_1 := Mem.cell (v := .int .i64 0) M8.1 1 rfl
  have c8_0_2 := Mem.cell (v := .string ⟨#[]⟩) M8.1 2 rfl
  have c8_0_3 := Mem.cell (v := .string ⟨#[]⟩) M8.1 3 rfl
  have c8_0_4 := Mem.cell (v := .string ⟨#[]⟩) M8.1 4 rfl
  have z8_0 := Mem.lt M8.1
  have c8_1_0 := Mem.cell (v := .int .i64 0) M8.2.1 0 rfl
  have c8_1_1 := Mem.cell (v := .int .i64 0) M8.2.1 1 rfl
  have c8_1_2 := Mem.cell (v := .string ⟨#[]⟩) M8.2.1 2 rfl
  have c8_1_3 := Mem.cell (v := .string ⟨#[]⟩) M8.2.1 3 rfl
  have c8_1_4 := Mem.cell (v := .string ⟨#[]⟩) M8.2.1 4 rfl
  have z8_1 := Mem.lt M8.2.1
  have c8_2_0 := Mem.cell (v := .int .i64 k) M8.2.2.1 0 rfl
  have c8_2_1 := Mem.cell (v := .int .i64 n) M8.2.2.1 1 rfl
  have c8_2_2 := Mem.cell (v := .string m) M8.2.2.1 2 rfl
  have c8_2_3 := Mem.cell (v := .string S8) M8.2.2.1 3 rfl
  have c8_2_4 := Mem.cell (v := .string I8) M8.2.2.1 4 rfl
  have z8_2 := Mem.lt M8.2.2.1
  go_wp2_with fail
  rw [HP0.out]
  go_wp2_with fail
  refine Calls.named ?_
  intro W9 hW9
  have hB9_ : Below w.heap.size w W9 := by rw [hW9]; exact (below_al hB8 _)
  have hw9_ : LaidV W9 := by rw [hW9]; exact (hw8.alloc _)
  have M9_ := (M8).new' (w8.heap.size) (by rfl) (.cells #[.int .i64 0, .int .i64 0, .string ⟨#[]⟩, .string ⟨#[]⟩, .string ⟨#[]⟩] 26)
  rw [← hW9] at M9_
  clear hW9
  have ZZ9_0 := Lib.hid (Mem.lt M9_.1)
  have ZZ9_1 := Lib.hid (Mem.lt M9_.2.1)
  have ZZ9_2 := Lib.hid (Mem.lt M9_.2.2.1)
  have ZZ9_3 := Lib.hid (Mem.lt M9_.2.2.2.1)
  clear c8_0_0 c8_0_1 c8_0_2 c8_0_3 c8_0_4 z8_0 c8_1_0 c8_1_1 c8_1_2 c8_1_3 c8_1_4 z8_1 c8_2_0 c8_2_1 c8_2_2 c8_2_3 c8_2_4 z8_2
  refine (g4 _ hw9_).mono ?_
  rintro e w9 ⟨rfl, hb9⟩
  have hB9 := below_then hB9_ hb9
  have hw9 := hw9_.below hb9
  have M9 := M9_.below hb9
  clear M9_ hB9_ hb9 hw9_
  have c9_0_0 := Mem.cell (v := .int .i64 0) M9.1 0 rfl
  have c9_0_1 := Mem.cell (v := .int .i64 0) M9.1 1 rfl
  have c9_0_2 := Mem.cell (v := .string ⟨#[]⟩) M9.1 2 rfl
  have c9_0_3 := Mem.cell (v := .string ⟨#[]⟩) M9.1 3 rfl
  have c9_0_4 := Mem.cell (v := .string ⟨#[]⟩) M9.1 4 rfl
  have z9_0 := Mem.lt M9.1
  have c9_1_0 := Mem.cell (v := .int .i64 0) M9.2.1 0 rfl
  have c9_1_1 := Mem.cell (v := .int .i64 0) M9.2.1 1 rfl
  have c9_1_2 := Mem.cell (v := .string ⟨#[]⟩) M9.2.1 2 rfl
  have c9_1_3 := Mem.cell (v := .string ⟨#[]⟩) M9.2.1 3 rfl
  have c9_1_4 := Mem.cell (v := .string ⟨#[]⟩) M9.2.1 4 rfl
  have z9_1 := Mem.lt M9.2.1
  have c9_2_0 := Mem.cell (v := .int .i64 0) M9.2.2.1 0 rfl
  have c9_2_1 := Mem.cell (v := .int .i64 0) M9.2.2.1 1 rfl
  have c9_2_2 := Mem.cell (v := .string ⟨#[]⟩) M9.2.2.1 2 rfl
  have c9_2_3 := Mem.cell (v := .string ⟨#[]⟩) M9.2.2.1 3 rfl
  have c9_2_4 := Mem.cell (v := .string ⟨#[]⟩) M9.2.2.1 4 rfl
  have z9_2 := Mem.lt M9.2.2.1
  have c9_3_0 := Mem.cell (v := .int .i64 k) M9.2.2.2.1 0 rfl
  have c9_3_1 := Mem.cell (v := .int .i64 n) M9.2.2.2.1 1 rfl
  have c9_3_2 := Mem.cell (v := .string m) M9.2.2.2.1 2 rfl
  have c9_3_3 := Mem.cell (v := .string S8) M9.2.2.2.1 3 rfl
  have c9_3_4 := Mem.cell (v := .string I8) M9.2.2.2.1 4 rfl
  have z9_3 := Mem.lt M9.2.2.2.1
  go_wp2_with fail
  rw [HP0.out]
  go_wp2_with fail
  refine Calls.named ?_
  intro W10 hW10
  have hB10_ : Below w.heap.size w W10 := by rw [hW10]; exact (below_al hB9 _)
  have hw10_ : LaidV W10 := by rw [hW10]; exact (hw9.alloc _)
  have M10_ := (M9).new' (w9.heap.size) (by rfl) (.cells #[.int .i64 k, .int .i64 n, .string m, .string S8, .string I8] 26)
  rw [← hW10] at M10_
  clear hW10
  have ZZ10_0 := Lib.hid (Mem.lt M10_.1)
  have ZZ10_1 := Lib.hid (Mem.lt M10_.2.1)
  have ZZ10_2 := Lib.hid (Mem.lt M10_.2.2.1)
  have ZZ10_3 := Lib.hid (Mem.lt M10_.2.2.2.1)
  have ZZ10_4 := Lib.hid (Mem.lt M10_.2.2.2.2.1)
  clear c9_0_0 c9_0_1 c9_0_2 c9_0_3 c9_0_4 z9_0 c9_1_0 c9_1_1 c9_1_2 c9_1_3 c9_1_4 z9_1 c9_2_0 c9_2_1 c9_2_2 c9_2_3 c9_2_4 z9_2 c9_3_0 c9_3_1 c9_3_2 c9_3_3 c9_3_4 z9_3
  refine (g5 _ hw10_).mono ?_
  rintro e w10 ⟨rfl, hb10⟩
  have hB10 := below_then hB10_ hb10
  have hw10 := hw10_.below hb10
  have M10 := M10_.below hb10
  clear M10_ hB10_ hb10 hw10_
  have c10_0_0 := Mem.cell (v := .int .i64 k) M10.1 0 rfl
  have c10_0_1 := Mem.cell (v := .int .i64 n) M10.1 1 rfl
  have c10_0_2 := Mem.cell (v := .string m) M10.1 2 rfl
  have c10_0_3 := Mem.cell (v := .string S8) M10.1 3 rfl
  have c10_0_4 := Mem.cell (v := .string I8) M10.1 4 rfl
  have z10_0 := Mem.lt M10.1
  have c10_1_0 := Mem.cell (v := .int .i64 0) M10.2.1 0 rfl
  have c10_1_1 := Mem.cell (v := .int .i64 0) M10.2.1 1 rfl
  have c10_1_2 := Mem.cell (v := .string ⟨#[]⟩) M10.2.1 2 rfl
  have c10_1_3 := Mem.cell (v := .string ⟨#[]⟩) M10.2.1 3 rfl
  have c10_1_4 := Mem.cell (v := .string ⟨#[]⟩) M10.2.1 4 rfl
  have z10_1 := Mem.lt M10.2.1
  have c10_2_0 := Mem.cell (v := .int .i64 0) M10.2.2.1 0 rfl
  have c10_2_1 := Mem.cell (v := .int .i64 0) M10.2.2.1 1 rfl
  have c10_2_2 := Mem.cell (v := .string ⟨#[]⟩) M10.2.2.1 2 rfl
  have c10_2_3 := Mem.cell (v := .string ⟨#[]⟩) M10.2.2.1 3 rfl
  have c10_2_4 := Mem.cell (v := .string ⟨#[]⟩) M10.2.2.1 4 rfl
  have z10_2 := Mem.lt M10.2.2.1
  have c10_3_0 := Mem.cell (v := .int .i64 0) M10.2.2.2.1 0 rfl
  have c10_3_1 := Mem.cell (v := .int .i64 0) M10.2.2.2.1 1 rfl
  have c10_3_2 := Mem.cell (v := .string ⟨#[]⟩) M10.2.2.2.1 2 rfl
  have c10_3_3 := Mem.cell (v := .string ⟨#[]⟩) M10.2.2.2.1 3 rfl
  have c10_3_4 := Mem.cell (v := .string ⟨#[]⟩) M10.2.2.2.1 4 rfl
  have z10_3 := Mem.lt M10.2.2.2.1
  have c10_4_0 := Mem.cell (v := .int .i64 k) M10.2.2.2.2.1 0 rfl
  have c10_4_1 := Mem.cell (v := .int .i64 n) M10.2.2.2.2.1 1 rfl
  have c10_4_2 := Mem.cell (v := .string m) M10.2.2.2.2.1 2 rfl
  have c10_4_3 := Mem.cell (v := .string S8) M10.2.2.2.2.1 3 rfl
  have c10_4_4 := Mem.cell (v := .string I8) M10.2.2.2.2.1 4 rfl
  have z10_4 := Mem.lt M10.2.2.2.2.1
  go_wp2_with fail
  go_ret
  exact ⟨rfl, (below_al hB10 _)⟩
theorem nat0 : ((0 : Nat) : Int) = 0 := rfl
theorem nat1 : ((1 : Nat) : Int) = 1 := rfl
theorem zero_app (P : List UInt8) : ((⟨#[0]⟩ : ByteArray) ++ ⟨P.toArray⟩).data.toList = 0 :: P := by
  rw [ByteArray.data_append]
  simp
theorem ext_take (P : List UInt8) (j : Nat) : ((⟨P.toArray⟩ : ByteArray).extract 0 j).data.toList = P.take j := by
  rw [Lib.extract_data]
  simp
theorem valTorn_walk (k n : Int) (m s i : ByteArray) (cut : Int) (hn : InI64 n) (hz : m.size ≤ 140737488351232 ∧ s.size ≤ 140737488351232 ∧ i.size ≤ 140737488351232) (hcut : 0 ≤ cut ∧ cut ≤ 255) (w : World) (hw : LaidV w) :
    Calls Tryd.prog 6 #[.agg #[.int .i64 k, .int .i64 n, .string m, .string s, .string i], .int .u8 cut] w fun e w' => e = .returned (.bool true) ∧ Below w.heap.size w w' := by
  have c1 := cut8_size s
  have c2 := cut8_size i
  have hf := fun w => few_any k n m s i w
  have hr := fun w hw => vright_any k n m (cut8 s) (cut8 i) hz.1 (by omega) (by omega) w hw
  have hq := fun w hw => vput_any k n hn m (cut8 s) (cut8 i) hz.1 (by omega) (by omega) w hw
  obtain ⟨C, rfl⟩ : ∃ C : Nat, cut = C := ⟨cut.toNat, by omega⟩
  cases hv : (vl k n m (cut8 s) (cut8 i)).right with
  | false =>
    rw [hv] at hr
    exact torn_no k n m s i _ _ C w hw hf hr
  | true =>
    rw [hv] at hr
    have hl := put_length (v := vl k n m (cut8 s) (cut8 i))
    have hne := put_ne hv
    obtain ⟨v, hvv⟩ : ∃ v, v = vl k n m (cut8 s) (cut8 i) := ⟨_, rfl⟩
    have hvn : InI64 v.n := by rw [hvv]; exact hn
    rw [← hvv] at hq hl hne hv
    have hpos : 1 ≤ v.put.length := by
      cases h : v.put with
      | nil => exact absurd h hne
      | cons a b => simp
    have hPs : (⟨v.put.toArray⟩ : ByteArray).size = v.put.length := rfl
    have hmod : C % v.put.length < v.put.length := Nat.mod_lt _ (by omega)
    have g1 := fun w hw => vget_any ((⟨v.put.toArray⟩ : ByteArray).extract 0 (v.put.length - 1 - C % v.put.length)) 0 w (by rw [ByteArray.size_extract, hPs]; omega) hw
    rw [ext_take, List.drop_zero, getV_torn hv hvn (by omega), nat0] at g1
    have g3 := fun w hw => vget_any ⟨v.put.toArray⟩ v.put.length w (by rw [hPs]; omega) hw
    have d3 : (⟨v.put.toArray⟩ : ByteArray).data.toList.drop v.put.length = [] := List.drop_of_length_le (Nat.le_refl _)
    rw [d3] at g3
    have hPs0 : ((⟨#[0]⟩ : ByteArray) ++ ⟨v.put.toArray⟩).size ≤ 140737488351232 := by rw [ByteArray.size_append, hPs]; show 1 + _ ≤ _; omega
    have g4 := fun w hw => vget_any (⟨#[0]⟩ ++ ⟨v.put.toArray⟩) 1 w (by omega) hw
    have e4 := getV_put hv hvn []
    rw [List.append_nil] at e4
    rw [zero_app, nat1, List.drop_succ_cons, List.drop_zero, e4] at g4
    have g5 := fun w hw => vget_any (⟨#[0]⟩ ++ ⟨v.put.toArray⟩) 0 w (by omega) hw
    have e5 : getV (0 :: v.put) = none := by
      rw [getV, if_neg (by decide), if_neg (by decide), if_neg (by decide)]
    rw [zero_app, nat0, List.drop_zero, e5] at g5
    subst hvv
    exact torn_yes k n m s i _ _ C ⟨(vl k n m (cut8 s) (cut8 i)).put.toArray⟩ _ _ w hw (by omega) (by rw [hPs]; omega) (by rw [hPs]; omega) rfl rfl hf hr hq g1 (fun w _ => vget_low _ (-1) w (by decide)) g3 _ g4 g5
end Go.Proofs.YtcgelcccboifjaaDoor
