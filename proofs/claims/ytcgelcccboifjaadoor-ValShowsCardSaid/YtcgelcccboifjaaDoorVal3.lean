/- val.Put, val.Text whole. -/
import Derived.Test.YtcgelcccboifjaaDoorVal2
namespace Go.Proofs.YtcgelcccboifjaaDoor
open Go.RowKit
theorem vput_any (k n : Int) (hn : InI64 n) (m s i : ByteArray) (hm : m.size ≤ 140737488351232) (hs : s.size ≤ 140737488351232) (hi : i.size ≤ 140737488351232) (w : World) (hw : LaidV w) :
    Calls Tryd.prog 11 #[.agg #[.int .i64 k, .int .i64 n, .string m, .string s, .string i]] w fun e w' => e = .returned (.string ⟨(vl k n m s i).put.toArray⟩) ∧ Below w.heap.size w w' := by
  cases h : (vl k n m s i).right with
  | false =>
    rw [put_no h]
    exact vput_no k n m s i hm hs hi w hw h
  | true =>
    have hp : (vl k n m s i).put = (vl k n m s i).putR := if_pos h
    rw [hp]
    by_cases k1 : k = 1
    · subst k1; exact vput1 n hn m s i hm hs hi w hw h
    · by_cases k2 : k = 2
      · subst k2; exact vput2 n m s i hm hs hi w hw h
      · by_cases k3 : 3 ≤ k ∧ k ≤ 7
        · exact vput3 k n k3 m s i hm hs hi w hw h
        · rw [right0 (by omega)] at h; cases h
set_option maxRecDepth 100000 in
set_option maxHeartbeats 1000000 in
theorem vtext_no (k n : Int) (m s i : ByteArray) (hm : m.size ≤ 140737488351232) (hs : s.size ≤ 140737488351232) (hi : i.size ≤ 140737488351232) (w : World) (hw : LaidV w) (h : (vl k n m s i).right = false) :
    Calls Tryd.prog 12 #[.agg #[.int .i64 k, .int .i64 n, .string m, .string s, .string i]] w fun e w' => e = .returned (.string ⟨#[63]⟩) ∧ Below w.heap.size w w' := by
  have hv := fun w => vright_any k n m s i hm hs hi w
  rw [h] at hv
  clear h
  go_enter Tryd.func12, Tryd.ntmps12
  have hB0 := Below.refl w.heap.size w
  have M0 := Mem.nil w
  have hw0 := hw
  go_wp2_with fail
  refine Calls.named ?_
  intro W1 hW1
  have hB1_ : Below w.heap.size w W1 := by rw [hW1]; exact (below_al hB0 _)
  have hw1_ : LaidV W1 := by rw [hW1]; exact (hw.alloc _)
  have M1_ := (M0).new' (w.heap.size) (by rfl) (.cells #[.int .i64 k, .int .i64 n, .string m, .string s, .string i] 26)
  rw [← hW1] at M1_
  clear hW1
  have ZZ1_0 := Lib.hid (Mem.lt M1_.1)
  refine (hv _ hw1_).mono ?_
  rintro e w1 ⟨rfl, hb1⟩
  have hB1 := below_then hB1_ hb1
  have hw1 := hw1_.below hb1
  have M1 := M1_.below hb1
  clear M1_ hB1_ hb1 hw1_
  have c1_0_0 := Mem.cell (v := .int .i64 k) M1.1 0 rfl
  have c1_0_1 := Mem.cell (v := .int .i64 n) M1.1 1 rfl
  have c1_0_2 := Mem.cell (v := .string m) M1.1 2 rfl
  have c1_0_3 := Mem.cell (v := .string s) M1.1 3 rfl
  have c1_0_4 := Mem.cell (v := .string i) M1.1 4 rfl
  have z1_0 := Mem.lt M1.1
  go_wp2_with fail
  go_ret
  exact ⟨rfl, hB1⟩
theorem mark_bytes (l : Lb) : (⟨#[60]⟩ ++ ⟨l.text.toArray⟩ ++ ⟨#[62]⟩ : ByteArray) = ⟨(markV l).toArray⟩ := by
  unfold markV
  apply ByteArray.ext
  simp [ByteArray.data_append]
set_option maxRecDepth 100000 in
set_option maxHeartbeats 1000000 in
theorem vtext1 (n : Int) (hn : InI64 n) (m s i : ByteArray) (hm : m.size ≤ 140737488351232) (hs : s.size ≤ 140737488351232) (hi : i.size ≤ 140737488351232) (w : World) (hw : LaidV w) (h : (vl 1 n m s i).right = true) :
    Calls Tryd.prog 12 #[.agg #[.int .i64 1, .int .i64 n, .string m, .string s, .string i]] w fun e w' => e = .returned (.string ⟨(Lib.itoa n).toArray⟩) ∧ Below w.heap.size w w' := by
  have hv := fun w => vright_any 1 n m s i hm hs hi w
  rw [h] at hv
  clear h
  have hp := fun w => ltext_any s i hs hi w
  have hl := Lb.text_length (lb s i)
  obtain ⟨P, hP⟩ : ∃ P, P = (lb s i).text := ⟨_, rfl⟩
  rw [← hP] at hp hl
  clear hP
  go_enter Tryd.func12, Tryd.ntmps12
  have hB0 := Below.refl w.heap.size w
  have M0 := Mem.nil w
  have hw0 := hw
  go_wp2_with fail
  refine Calls.named ?_
  intro W1 hW1
  have hB1_ : Below w.heap.size w W1 := by rw [hW1]; exact (below_al hB0 _)
  have hw1_ : LaidV W1 := by rw [hW1]; exact (hw.alloc _)
  have M1_ := (M0).new' (w.heap.size) (by rfl) (.cells #[.int .i64 1, .int .i64 n, .string m, .string s, .string i] 26)
  rw [← hW1] at M1_
  clear hW1
  have ZZ1_0 := Lib.hid (Mem.lt M1_.1)
  refine (hv _ hw1_).mono ?_
  rintro e w1 ⟨rfl, hb1⟩
  have hB1 := below_then hB1_ hb1
  have hw1 := hw1_.below hb1
  have M1 := M1_.below hb1
  clear M1_ hB1_ hb1 hw1_
  have c1_0_0 := Mem.cell (v := .int .i64 1) M1.1 0 rfl
  have c1_0_1 := Mem.cell (v := .int .i64 n) M1.1 1 rfl
  have c1_0_2 := Mem.cell (v := .string m) M1.1 2 rfl
  have c1_0_3 := Mem.cell (v := .string s) M1.1 3 rfl
  have c1_0_4 := Mem.cell (v := .string i) M1.1 4 rfl
  have z1_0 := Mem.lt M1.1
  go_wp2_with fail
  refine Calls.named ?_
  intro W2 hW2
  have hB2_ : Below w.heap.size w W2 := by rw [hW2]; exact hB1
  have hw2_ : LaidV W2 := by rw [hW2]; exact hw1
  have M2_ := M1
  rw [← hW2] at M2_
  clear hW2
  have ZZ2_0 := Lib.hid (Mem.lt M2_.1)
  clear c1_0_0 c1_0_1 c1_0_2 c1_0_3 c1_0_4 z1_0
  refine (hp _ hw2_).mono ?_
  rintro e w2 ⟨rfl, hb2⟩
  have hB2 := below_then hB2_ hb2
  have hw2 := hw2_.below hb2
  have M2 := M2_.below hb2
  clear M2_ hB2_ hb2 hw2_
  have c2_0_0 := Mem.cell (v := .int .i64 1) M2.1 0 rfl
  have c2_0_1 := Mem.cell (v := .int .i64 n) M2.1 1 rfl
  have c2_0_2 := Mem.cell (v := .string m) M2.1 2 rfl
  have c2_0_3 := Mem.cell (v := .string s) M2.1 3 rfl
  have c2_0_4 := Mem.cell (v := .string i) M2.1 4 rfl
  have z2_0 := Mem.lt M2.1
  go_wp2_with fail
  refine Calls.named ?_
  intro W3 hW3
  have hB3_ : Below w.heap.size w W3 := by rw [hW3]; exact hB2
  have hw3_ : LaidV W3 := by rw [hW3]; exact hw2
  have M3_ := M2
  rw [← hW3] at M3_
  clear hW3
  have ZZ3_0 := Lib.hid (Mem.lt M3_.1)
  clear c2_0_0 c2_0_1 c2_0_2 c2_0_3 c2_0_4 z2_0
  refine (text_any n _ hn (hw3_).lib).mono ?_
  rintro e w3 ⟨rfl, hb3⟩
  have hB3 := below_then hB3_ hb3
  have hw3 := hw3_.below hb3
  have M3 := M3_.below hb3
  clear M3_ hB3_ hb3 hw3_
  have c3_0_0 := Mem.cell (v := .int .i64 1) M3.1 0 rfl
  have c3_0_1 := Mem.cell (v := .int .i64 n) M3.1 1 rfl
  have c3_0_2 := Mem.cell (v := .string m) M3.1 2 rfl
  have c3_0_3 := Mem.cell (v := .string s) M3.1 3 rfl
  have c3_0_4 := Mem.cell (v := .string i) M3.1 4 rfl
  have z3_0 := Mem.lt M3.1
  go_wp2_with fail
  go_ret
  exact ⟨rfl, hB3⟩
set_option maxRecDepth 100000 in
set_option maxHeartbeats 1000000 in
theorem vtext2 (n : Int) (m s i : ByteArray) (hm : m.size ≤ 140737488351232) (hs : s.size ≤ 140737488351232) (hi : i.size ≤ 140737488351232) (w : World) (hw : LaidV w) (h : (vl 2 n m s i).right = true) :
    Calls Tryd.prog 12 #[.agg #[.int .i64 2, .int .i64 n, .string m, .string s, .string i]] w fun e w' => e = .returned (.string ⟨(markV (lb s i)).toArray⟩) ∧ Below w.heap.size w w' := by
  have hv := fun w => vright_any 2 n m s i hm hs hi w
  rw [h] at hv
  clear h
  have hp := fun w => ltext_any s i hs hi w
  have hl := Lb.text_length (lb s i)
  have hR : Hid (Ending.returned (.string (⟨#[60]⟩ ++ ⟨(lb s i).text.toArray⟩ ++ ⟨#[62]⟩)) = .returned (.string ⟨(markV (lb s i)).toArray⟩)) := Lib.hid (ret_str (mark_bytes _))
  obtain ⟨A, hA⟩ : ∃ A, A = Ending.returned (.string ⟨(markV (lb s i)).toArray⟩) := ⟨_, rfl⟩
  rw [← hA] at hR ⊢
  clear hA
  obtain ⟨P, hP⟩ : ∃ P, P = (lb s i).text := ⟨_, rfl⟩
  rw [← hP] at hp hl hR
  clear hP
  go_enter Tryd.func12, Tryd.ntmps12
  have hB0 := Below.refl w.heap.size w
  have M0 := Mem.nil w
  have hw0 := hw
  go_wp2_with fail
  refine Calls.named ?_
  intro W1 hW1
  have hB1_ : Below w.heap.size w W1 := by rw [hW1]; exact (below_al hB0 _)
  have hw1_ : LaidV W1 := by rw [hW1]; exact (hw.alloc _)
  have M1_ := (M0).new' (w.heap.size) (by rfl) (.cells #[.int .i64 2, .int .i64 n, .string m, .string s, .string i] 26)
  rw [← hW1] at M1_
  clear hW1
  have ZZ1_0 := Lib.hid (Mem.lt M1_.1)
  refine (hv _ hw1_).mono ?_
  rintro e w1 ⟨rfl, hb1⟩
  have hB1 := below_then hB1_ hb1
  have hw1 := hw1_.below hb1
  have M1 := M1_.below hb1
  clear M1_ hB1_ hb1 hw1_
  have c1_0_0 := Mem.cell (v := .int .i64 2) M1.1 0 rfl
  have c1_0_1 := Mem.cell (v := .int .i64 n) M1.1 1 rfl
  have c1_0_2 := Mem.cell (v := .string m) M1.1 2 rfl
  have c1_0_3 := Mem.cell (v := .string s) M1.1 3 rfl
  have c1_0_4 := Mem.cell (v := .string i) M1.1 4 rfl
  have z1_0 := Mem.lt M1.1
  go_wp2_with fail
  refine Calls.named ?_
  intro W2 hW2
  have hB2_ : Below w.heap.size w W2 := by rw [hW2]; exact hB1
  have hw2_ : LaidV W2 := by rw [hW2]; exact hw1
  have M2_ := M1
  rw [← hW2] at M2_
  clear hW2
  have ZZ2_0 := Lib.hid (Mem.lt M2_.1)
  clear c1_0_0 c1_0_1 c1_0_2 c1_0_3 c1_0_4 z1_0
  refine (hp _ hw2_).mono ?_
  rintro e w2 ⟨rfl, hb2⟩
  have hB2 := below_then hB2_ hb2
  have hw2 := hw2_.below hb2
  have M2 := M2_.below hb2
  clear M2_ hB2_ hb2 hw2_
  have c2_0_0 := Mem.cell (v := .int .i64 2) M2.1 0 rfl
  have c2_0_1 := Mem.cell (v := .int .i64 n) M2.1 1 rfl
  have c2_0_2 := Mem.cell (v := .string m) M2.1 2 rfl
  have c2_0_3 := Mem.cell (v := .string s) M2.1 3 rfl
  have c2_0_4 := Mem.cell (v := .string i) M2.1 4 rfl
  have z2_0 := Mem.lt M2.1
  go_wp2_with fail
  go_ret
  exact ⟨hR.out, hB2⟩
theorem wordV_length (k : Int) : (wordV k).length ≤ 4 := by
  unfold wordV
  split
  · decide
  · split
    · decide
    · split
      · decide
      · split <;> decide
set_option maxRecDepth 100000 in
set_option maxHeartbeats 1000000 in
theorem vtext3 (k n : Int) (hk : 3 ≤ k ∧ k ≤ 7) (m s i : ByteArray) (hm : m.size ≤ 140737488351232) (hs : s.size ≤ 140737488351232) (hi : i.size ≤ 140737488351232) (w : World) (hw : LaidV w) (h : (vl k n m s i).right = true) :
    Calls Tryd.prog 12 #[.agg #[.int .i64 k, .int .i64 n, .string m, .string s, .string i]] w fun e w' => e = .returned (.string ⟨(wordV k ++ 58 :: (m.data.toList ++ markV (lb s i))).toArray⟩) ∧ Below w.heap.size w w' := by
  have hv := fun w => vright_any k n m s i hm hs hi w
  rw [h] at hv
  clear h
  have hp := fun w => ltext_any s i hs hi w
  have hl := Lb.text_length (lb s i)
  have hwd := fun w => word_any k hk w
  have hwl := wordV_length k
  have hR : Hid (Ending.returned (.string ((((⟨(wordV k).toArray⟩ ++ ⟨#[58]⟩) ++ m) ++ (⟨#[60]⟩ ++ ⟨(lb s i).text.toArray⟩ ++ ⟨#[62]⟩)))) = .returned (.string ⟨(wordV k ++ 58 :: (m.data.toList ++ markV (lb s i))).toArray⟩)) := Lib.hid (ret_str (by
    rw [mark_bytes]
    apply ByteArray.ext
    simp [ByteArray.data_append]))
  obtain ⟨A, hA⟩ : ∃ A, A = Ending.returned (.string ⟨(wordV k ++ 58 :: (m.data.toList ++ markV (lb s i))).toArray⟩) := ⟨_, rfl⟩
  rw [← hA] at hR ⊢
  clear hA
  obtain ⟨P, hP⟩ : ∃ P, P = (lb s i).text := ⟨_, rfl⟩
  rw [← hP] at hp hl hR
  obtain ⟨T, hT⟩ : ∃ T, T = wordV k := ⟨_, rfl⟩
  rw [← hT] at hwd hwl hR
  clear hP hT
  have k1 := int_ne (k := k) (j := 1) (by omega)
  have k2 := int_ne (k := k) (j := 2) (by omega)
  go_enter Tryd.func12, Tryd.ntmps12
  have hB0 := Below.refl w.heap.size w
  have M0 := Mem.nil w
  have hw0 := hw
  go_wp2_with fail
  refine Calls.named ?_
  intro W1 hW1
  have hB1_ : Below w.heap.size w W1 := by rw [hW1]; exact (below_al hB0 _)
  have hw1_ : LaidV W1 := by rw [hW1]; exact (hw.alloc _)
  have M1_ := (M0).new' (w.heap.size) (by rfl) (.cells #[.int .i64 k, .int .i64 n, .string m, .string s, .string i] 26)
  rw [← hW1] at M1_
  clear hW1
  have ZZ1_0 := Lib.hid (Mem.lt M1_.1)
  refine (hv _ hw1_).mono ?_
  rintro e w1 ⟨rfl, hb1⟩
  have hB1 := below_then hB1_ hb1
  have hw1 := hw1_.below hb1
  have M1 := M1_.below hb1
  clear M1_ hB1_ hb1 hw1_
  have c1_0_0 := Mem.cell (v := .int .i64 k) M1.1 0 rfl
  have c1_0_1 := Mem.cell (v := .int .i64 n) M1.1 1 rfl
  have c1_0_2 := Mem.cell (v := .string m) M1.1 2 rfl
  have c1_0_3 := Mem.cell (v := .string s) M1.1 3 rfl
  have c1_0_4 := Mem.cell (v := .string i) M1.1 4 rfl
  have z1_0 := Mem.lt M1.1
  go_wp2_with fail
  refine Calls.named ?_
  intro W2 hW2
  have hB2_ : Below w.heap.size w W2 := by rw [hW2]; exact hB1
  have hw2_ : LaidV W2 := by rw [hW2]; exact hw1
  have M2_ := M1
  rw [← hW2] at M2_
  clear hW2
  have ZZ2_0 := Lib.hid (Mem.lt M2_.1)
  clear c1_0_0 c1_0_1 c1_0_2 c1_0_3 c1_0_4 z1_0
  refine (hp _ hw2_).mono ?_
  rintro e w2 ⟨rfl, hb2⟩
  have hB2 := below_then hB2_ hb2
  have hw2 := hw2_.below hb2
  have M2 := M2_.below hb2
  clear M2_ hB2_ hb2 hw2_
  have c2_0_0 := Mem.cell (v := .int .i64 k) M2.1 0 rfl
  have c2_0_1 := Mem.cell (v := .int .i64 n) M2.1 1 rfl
  have c2_0_2 := Mem.cell (v := .string m) M2.1 2 rfl
  have c2_0_3 := Mem.cell (v := .string s) M2.1 3 rfl
  have c2_0_4 := Mem.cell (v := .string i) M2.1 4 rfl
  have z2_0 := Mem.lt M2.1
  go_upto_region 9 with (fail)
  refine wp_named ?_
  intro w3 hW3
  have hB3 : Below w.heap.size w w3 := by rw [hW3]; exact hB2
  have hw3 : LaidV w3 := by rw [hW3]; exact hw2
  have M3 := M2
  rw [← hW3] at M3
  clear c2_0_0 c2_0_1 c2_0_2 c2_0_3 c2_0_4 z2_0
  clear hW3
  have c3_0_0 := Mem.cell (v := .int .i64 k) M3.1 0 rfl
  have c3_0_1 := Mem.cell (v := .int .i64 n) M3.1 1 rfl
  have c3_0_2 := Mem.cell (v := .string m) M3.1 2 rfl
  have c3_0_3 := Mem.cell (v := .string s) M3.1 3 rfl
  have c3_0_4 := Mem.cell (v := .string i) M3.1 4 rfl
  have z3_0 := Mem.lt M3.1
  have hs1 : ¬ 9223372036854775807 < T.length + 1 := by omega
  have hs2 : ¬ 9223372036854775807 < T.length + 1 + m.size := by omega
  have hs3 : ¬ 9223372036854775807 < T.length + 1 + m.size + (1 + P.length + 1) := by omega
  have p3_0_0 := fun p : After w3 => Mem.cell (v := .int .i64 k) (Mem.after M3 p).1 0 rfl
  have p3_0_1 := fun p : After w3 => Mem.cell (v := .int .i64 n) (Mem.after M3 p).1 1 rfl
  have p3_0_2 := fun p : After w3 => Mem.cell (v := .string m) (Mem.after M3 p).1 2 rfl
  have p3_0_3 := fun p : After w3 => Mem.cell (v := .string s) (Mem.after M3 p).1 3 rfl
  have p3_0_4 := fun p : After w3 => Mem.cell (v := .string i) (Mem.after M3 p).1 4 rfl
  refine wp_region_after (by kernel_rfl) (by kernel_rfl) ?_
  repeat (go_big_quiet_step ((go_at_call 23; with_reducible exact After.same (hwd _))))
  refine wpQuiet_nil ?_
  rintro _ ⟨p3, rfl⟩
  clear p3_0_0 p3_0_1 p3_0_2 p3_0_3 p3_0_4
  clear c3_0_0 c3_0_1 c3_0_2 c3_0_3 c3_0_4 z3_0
  obtain ⟨w4, hW4⟩ : ∃ x, x = p3.world := ⟨_, rfl⟩
  have hB4 : Below w.heap.size w w4 := by rw [hW4]; exact below_then hB3 p3.h
  have hw4 : LaidV w4 := by rw [hW4]; exact hw3.below p3.h
  have M4 := M3.below p3.h
  rw [← hW4] at M4
  rw [← hW4]
  clear hW4
  clear p3
  have c4_0_0 := Mem.cell (v := .int .i64 k) M4.1 0 rfl
  have c4_0_1 := Mem.cell (v := .int .i64 n) M4.1 1 rfl
  have c4_0_2 := Mem.cell (v := .string m) M4.1 2 rfl
  have c4_0_3 := Mem.cell (v := .string s) M4.1 3 rfl
  have c4_0_4 := Mem.cell (v := .string i) M4.1 4 rfl
  have z4_0 := Mem.lt M4.1
  go_wp2
  go_ret
  exact ⟨hR.out, hB4⟩
theorem vtext_any (k n : Int) (hn : InI64 n) (m s i : ByteArray) (hm : m.size ≤ 140737488351232) (hs : s.size ≤ 140737488351232) (hi : i.size ≤ 140737488351232) (w : World) (hw : LaidV w) :
    Calls Tryd.prog 12 #[.agg #[.int .i64 k, .int .i64 n, .string m, .string s, .string i]] w fun e w' => e = .returned (.string ⟨(vl k n m s i).text.toArray⟩) ∧ Below w.heap.size w w' := by
  cases h : (vl k n m s i).right with
  | false =>
    have hp : (vl k n m s i).text = [63] := if_neg (by rw [h]; decide)
    rw [hp]
    exact vtext_no k n m s i hm hs hi w hw h
  | true =>
    have hp : (vl k n m s i).text = (vl k n m s i).textR := if_pos h
    rw [hp]
    by_cases k1 : k = 1
    · subst k1; exact vtext1 n hn m s i hm hs hi w hw h
    · by_cases k2 : k = 2
      · subst k2; exact vtext2 n m s i hm hs hi w hw h
      · by_cases k3 : 3 ≤ k ∧ k ≤ 7
        · have e : (vl k n m s i).textR = wordV k ++ 58 :: (m.data.toList ++ markV (lb s i)) := by
            unfold Vl.textR vl
            simp only
            rw [if_neg k1, if_neg k2]
          rw [e]
          exact vtext3 k n k3 m s i hm hs hi w hw h
        · rw [right0 (by omega)] at h; cases h
/-! Get -/
def gnE (r : Option (List UInt8 × Nat)) (a : Nat) : Ending := match r with
  | none => .returned (.tuple #[.string ⟨#[]⟩, .int .i64 0, .bool false])
  | some (f, n) => .returned (.tuple #[.string ⟨f.toArray⟩, .int .i64 ((a + n : Nat) : Int), .bool true])
theorem gn_high (s : ByteArray) (a : Nat) (w : World) (_hs : s.size ≤ 1152921504606846976) (ha : (s.size : Int) ≤ a) :
    Calls Tryd.prog 26 #[.string s, .int .i64 a] w fun e w' => e = gnE none a ∧ Below w.heap.size w w' := by
  go_enter Tryd.func26, Tryd.ntmps26
  go_wp2
  go_ret3
  exact ⟨rfl, Below.refl _ _⟩
set_option maxRecDepth 100000 in
set_option maxHeartbeats 1000000 in
theorem gn_short (s : ByteArray) (a : Nat) (w : World) (hs : s.size ≤ 1152921504606846976) (ha : a < s.size) (c : Nat) (hc : c = (s.data.toList.getD a 0).toNat) (hm : s.size < a + 1 + c) :
    Calls Tryd.prog 26 #[.string s, .int .i64 a] w fun e w' => e = gnE none a ∧ Below w.heap.size w w' := by
  have hix := index_str Tryd.underlying9 s rfl a ha
  rw [← hc] at hix
  have h0 : (0 : Int) ≤ a := by omega
  have h1 : (a : Int) < s.size := by omega
  have hc2 : c < 256 := by rw [hc]; exact UInt8.toNat_lt _
  have h2 : (s.size : Int) - ((a : Int) + 1) < c := by omega
  have h3 : (0 : Int) ≤ c := by omega
  clear hc hm
  go_enter Tryd.func26, Tryd.ntmps26
  have hB0 := Below.refl w.heap.size w
  have M0 := Mem.nil w
  go_upto_region 3 with (fail)
  refine wp_named ?_
  intro w1 hW1
  have hB1 : Below w.heap.size w w1 := by rw [hW1]; exact hB0
  have M1 := Mem.nil w1
  clear hW1
  refine wp_region_after (by kernel_rfl) (by kernel_rfl) ?_
  repeat (go_big_quiet_step (((fail))))
  refine wpQuiet_nil ?_
  rintro _ ⟨p1, rfl⟩
  obtain ⟨w2, hW2⟩ : ∃ x, x = p1.world := ⟨_, rfl⟩
  have hB2 : Below w.heap.size w w2 := by rw [hW2]; exact below_then hB1 p1.h
  have M2 := M1.below p1.h
  rw [← hW2] at M2
  rw [← hW2]
  clear hW2
  clear p1
  go_wp2
  go_ret3
  exact ⟨rfl, hB2⟩
set_option maxRecDepth 100000 in
set_option maxHeartbeats 1000000 in
theorem gn_in (s : ByteArray) (a : Nat) (w : World) (hs : s.size ≤ 1152921504606846976) (ha : a < s.size) (c : Nat) (hc : c = (s.data.toList.getD a 0).toNat) (hm : a + 1 + c ≤ s.size) (hw : LaidV w) :
    Calls Tryd.prog 26 #[.string s, .int .i64 a] w fun e w' => e = gnE (if (readL ((s.data.toList.drop (a + 1)).take c)).isSome = true then some ((s.data.toList.drop (a + 1)).take c, c + 1) else none) a ∧ Below w.heap.size w w' := by
  have hix := index_str Tryd.underlying9 s rfl a ha
  rw [← hc] at hix
  have h0 : (0 : Int) ≤ a := by omega
  have h1 : (a : Int) < s.size := by omega
  have hc2 : c < 256 := by rw [hc]; exact UInt8.toNat_lt _
  have h2 : (c : Int) ≤ (s.size : Int) - ((a : Int) + 1) := by omega
  have h3 : (0 : Int) ≤ c := by omega
  have hX := fun w => nright_v (s.extract (a + 1) (a + 1 + c)) w (by rw [ByteArray.size_extract]; omega)
  rw [ext_list s (a + 1) c hm] at hX
  have hE := ext_bytes s (a + 1) c hm
  obtain ⟨F, hF⟩ : ∃ F, F = (s.data.toList.drop (a + 1)).take c := ⟨_, rfl⟩
  rw [← hF] at hX hE ⊢
  clear hc hF
  cases hb : (readL F).isSome with
  | false =>
    rw [hb] at hX
    clear hb hE
    go_enter Tryd.func26, Tryd.ntmps26
    have hB0 := Below.refl w.heap.size w
    have M0 := Mem.nil w
    have hw0 := hw
    go_upto_region 3 with (fail)
    refine wp_named ?_
    intro w1 hW1
    have hB1 : Below w.heap.size w w1 := by rw [hW1]; exact hB0
    have hw1 : LaidV w1 := by rw [hW1]; exact hw
    have M1 := Mem.nil w1
    clear hW1
    refine wp_region_after (by kernel_rfl) (by kernel_rfl) ?_
    repeat (go_big_quiet_step (((fail))))
    refine wpQuiet_nil ?_
    rintro _ ⟨p1, rfl⟩
    obtain ⟨w2, hW2⟩ : ∃ x, x = p1.world := ⟨_, rfl⟩
    have hB2 : Below w.heap.size w w2 := by rw [hW2]; exact below_then hB1 p1.h
    have hw2 : LaidV w2 := by rw [hW2]; exact hw1.below p1.h
    have M2 := M1.below p1.h
    rw [← hW2] at M2
    rw [← hW2]
    clear hW2
    clear p1
    go_wp2_with fail
    refine Calls.named ?_
    intro W3 hW3
    have hB3_ : Below w.heap.size w W3 := by rw [hW3]; exact hB2
    have hw3_ : LaidV W3 := by rw [hW3]; exact hw2
    have M3_ := Mem.nil W3
    clear hW3
    refine (hX _ hw3_).mono ?_
    rintro e w3 ⟨rfl, hb3⟩
    have hB3 := below_then hB3_ hb3
    have hw3 := hw3_.below hb3
    have M3 := M3_.below hb3
    clear M3_ hB3_ hb3 hw3_
    go_wp2
    go_ret3
    exact ⟨rfl, hB3⟩
  | true =>
    rw [hb] at hX
    have hR : Hid (Ending.returned (.tuple #[.string (s.extract (a + 1) (a + 1 + c)), .int .i64 ((a : Int) + 1 + c), .bool true]) = gnE (some (F, c + 1)) a) := Lib.hid (by
      unfold gnE
      simp only
      rw [hE, show ((a + (c + 1) : Nat) : Int) = (a : Int) + 1 + c by omega])
    clear hb hE
    go_enter Tryd.func26, Tryd.ntmps26
    have hB0 := Below.refl w.heap.size w
    have M0 := Mem.nil w
    have hw0 := hw
    go_upto_region 3 with (fail)
    refine wp_named ?_
    intro w1 hW1
    have hB1 : Below w.heap.size w w1 := by rw [hW1]; exact hB0
    have hw1 : LaidV w1 := by rw [hW1]; exact hw
    have M1 := Mem.nil w1
    clear hW1
    refine wp_region_after (by kernel_rfl) (by kernel_rfl) ?_
    repeat (go_big_quiet_step (((fail))))
    refine wpQuiet_nil ?_
    rintro _ ⟨p1, rfl⟩
    obtain ⟨w2, hW2⟩ : ∃ x, x = p1.world := ⟨_, rfl⟩
    have hB2 : Below w.heap.size w w2 := by rw [hW2]; exact below_then hB1 p1.h
    have hw2 : LaidV w2 := by rw [hW2]; exact hw1.below p1.h
    have M2 := M1.below p1.h
    rw [← hW2] at M2
    rw [← hW2]
    clear hW2
    clear p1
    go_wp2_with fail
    refine Calls.named ?_
    intro W3 hW3
    have hB3_ : Below w.heap.size w W3 := by rw [hW3]; exact hB2
    have hw3_ : LaidV W3 := by rw [hW3]; exact hw2
    have M3_ := Mem.nil W3
    clear hW3
    refine (hX _ hw3_).mono ?_
    rintro e w3 ⟨rfl, hb3⟩
    have hB3 := below_then hB3_ hb3
    have hw3 := hw3_.below hb3
    have M3 := M3_.below hb3
    clear M3_ hB3_ hb3 hw3_
    go_wp2
    go_ret3
    exact ⟨hR.out, hB3⟩
theorem gn_any (s : ByteArray) (a : Nat) (w : World) (hs : s.size ≤ 1152921504606846976) (hw : LaidV w) :
    Calls Tryd.prog 26 #[.string s, .int .i64 a] w fun e w' => e = gnE (getNm (s.data.toList.drop a)) a ∧ Below w.heap.size w w' := by
  have hL : s.data.toList.length = s.size := Array.length_toList
  rcases Nat.lt_or_ge a s.size with ha | ha
  · have hd := drop_cons (L := s.data.toList) (a := a) (by omega)
    rcases Nat.lt_or_ge s.size (a + 1 + (s.data.toList.getD a 0).toNat) with hm | hm
    · have e : getNm (s.data.toList.drop a) = none := by
        rw [hd, getNm, if_neg]
        rw [List.length_drop]
        omega
      rw [e]
      exact gn_short s a w hs ha _ rfl hm
    · have e : getNm (s.data.toList.drop a) = if (readL ((s.data.toList.drop (a + 1)).take (s.data.toList.getD a 0).toNat)).isSome = true then some ((s.data.toList.drop (a + 1)).take (s.data.toList.getD a 0).toNat, (s.data.toList.getD a 0).toNat + 1) else none := by
        rw [hd, getNm]
        by_cases hr : (readL ((s.data.toList.drop (a + 1)).take (s.data.toList.getD a 0).toNat)).isSome = true
        · rw [if_pos hr, if_pos ⟨by rw [List.length_drop]; omega, hr⟩]
        · rw [if_neg hr, if_neg (fun h => hr h.2)]
      rw [e]
      exact gn_in s a w hs ha _ rfl hm hw
  · have e : s.data.toList.drop a = [] := List.drop_of_length_le (by omega)
    rw [e]
    exact gn_high s a w hs (by omega)
end Go.Proofs.YtcgelcccboifjaaDoor
