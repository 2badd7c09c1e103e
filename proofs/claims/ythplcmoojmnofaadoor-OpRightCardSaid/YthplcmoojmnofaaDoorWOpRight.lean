/- What is right of an instruction, and how many bytes it has. The walk: the law answers true; no memory that was there is turned. Conditions: the integers are of their kinds, the listed package variables hold what the program's text lays. -/
import Derived.Test.YthplcmoojmnofaaDoorOpLaws
namespace Go.Proofs.YthplcmoojmnofaaDoor
open Go.RowKit
theorem size_list (l : List UInt8) : (⟨l.toArray⟩ : ByteArray).size = l.length := by simp [ByteArray.size]
theorem opPut_len (c a : Int) : (opPut c a).length = if rightB c a then opSize c else 0 := by
  split
  · rename_i h; exact opPut_length h
  · rename_i h; rw [opPut_wrong (by simpa using h)]; rfl
set_option maxHeartbeats 1000000 in
theorem opRight_no1 (c a : Int) (w : World) (hw : LaidOp w) (h1 : c < 1) (x : Int) (hx : aArg c = x) (HK : Hid (aOk c = false)) (HR : Hid (rightB c a = false)) (HL : Hid ((opPut c a).length = 0)) :
    Calls Tryd.prog 5 #[.agg #[.int .i64 c, .int .i64 a]] w fun e w' => e = .returned (.bool true) ∧ Below w.heap.size w w' := by
  go_enter Tryd.func5, Tryd.ntmps5
  go_wp2_with fail
  refine (oexamples_any _ (hw.alloc _)).mono ?_
  rintro e w1 ⟨rfl, hb1⟩
  have hw1 := (hw.alloc _).below hb1
  have T1 := (Two.new w _ _ _).below hb1
  have t0 := T1.c0
  have t1 := T1.c1
  go_wp2_with fail
  refine (about_any _ _ hw1).mono ?_
  rw [HK.out, hx]
  generalize aName c = nm
  generalize aPop c = p
  generalize aPush c = q
  generalize (aLast c && false) = l
  rintro e w2 ⟨rfl, hb2⟩
  have hw2 := hw1.below hb2
  have T2 := T1.below hb2
  clear t0 t1
  have t0 := fun o => (T2.al o).c0
  have t1 := fun o => (T2.al o).c1
  go_wp2_with fail
  refine (right_any _ _ _ (hw2.alloc _)).mono ?_
  rw [HR.out]
  rintro e w3 ⟨rfl, hb3⟩
  have hw3 := (hw2.alloc _).below hb3
  have T3 := (T2.al _).below hb3
  clear t0 t1
  have t0 := T3.c0
  have t1 := T3.c1
  go_wp2_with fail
  refine (put_op _ _ _ hw3).mono ?_
  have hl := (size_list (opPut c a)).trans HL.out
  generalize opPut c a = L at hl
  rintro e w4 ⟨rfl, hb4⟩
  have T4 := T3.below hb4
  clear t0 t1
  have t0 := T4.c0
  have t1 := T4.c1
  go_wp2_with fail
  go_ret
  exact ⟨rfl, below_alloc_then (below_two hb1 (below_two hb2 (below_alloc_then (below_two hb3 hb4))))⟩
set_option maxHeartbeats 1000000 in
theorem opRight_no2 (c a : Int) (w : World) (hw : LaidOp w) (h0 : 1 ≤ c) (h1 : 47 < c) (h5 : decide (c ≤ 47) = false) (x : Int) (hx : aArg c = x) (HK : Hid (aOk c = false)) (HR : Hid (rightB c a = false)) (HL : Hid ((opPut c a).length = 0)) :
    Calls Tryd.prog 5 #[.agg #[.int .i64 c, .int .i64 a]] w fun e w' => e = .returned (.bool true) ∧ Below w.heap.size w w' := by
  go_enter Tryd.func5, Tryd.ntmps5
  go_wp2_with fail
  refine (oexamples_any _ (hw.alloc _)).mono ?_
  rintro e w1 ⟨rfl, hb1⟩
  have hw1 := (hw.alloc _).below hb1
  have T1 := (Two.new w _ _ _).below hb1
  have t0 := T1.c0
  have t1 := T1.c1
  go_wp2_with fail
  refine (about_any _ _ hw1).mono ?_
  rw [HK.out, hx]
  generalize aName c = nm
  generalize aPop c = p
  generalize aPush c = q
  generalize (aLast c && false) = l
  rintro e w2 ⟨rfl, hb2⟩
  have hw2 := hw1.below hb2
  have T2 := T1.below hb2
  clear t0 t1
  have t0 := fun o => (T2.al o).c0
  have t1 := fun o => (T2.al o).c1
  go_wp2_with fail
  refine (right_any _ _ _ (hw2.alloc _)).mono ?_
  rw [HR.out]
  rintro e w3 ⟨rfl, hb3⟩
  have hw3 := (hw2.alloc _).below hb3
  have T3 := (T2.al _).below hb3
  clear t0 t1
  have t0 := T3.c0
  have t1 := T3.c1
  go_wp2_with fail
  refine (put_op _ _ _ hw3).mono ?_
  have hl := (size_list (opPut c a)).trans HL.out
  generalize opPut c a = L at hl
  rintro e w4 ⟨rfl, hb4⟩
  have T4 := T3.below hb4
  clear t0 t1
  have t0 := T4.c0
  have t1 := T4.c1
  go_wp2_with fail
  go_ret
  exact ⟨rfl, below_alloc_then (below_two hb1 (below_two hb2 (below_alloc_then (below_two hb3 hb4))))⟩
set_option maxHeartbeats 1000000 in
theorem opRight_low (c a : Int) (w : World) (hw : LaidOp w) (h0 : 1 ≤ c) (h1 : c ≤ 47) (h2 : a < 0) (x : Int) (hx : aArg c = x) (HK : Hid (aOk c = true)) (HR : Hid (rightB c a = false)) (HL : Hid ((opPut c a).length = 0)) :
    Calls Tryd.prog 5 #[.agg #[.int .i64 c, .int .i64 a]] w fun e w' => e = .returned (.bool true) ∧ Below w.heap.size w w' := by
  go_enter Tryd.func5, Tryd.ntmps5
  go_wp2_with fail
  refine (oexamples_any _ (hw.alloc _)).mono ?_
  rintro e w1 ⟨rfl, hb1⟩
  have hw1 := (hw.alloc _).below hb1
  have T1 := (Two.new w _ _ _).below hb1
  have t0 := T1.c0
  have t1 := T1.c1
  go_wp2_with fail
  refine (about_any _ _ hw1).mono ?_
  rw [HK.out, hx]
  generalize aName c = nm
  generalize aPop c = p
  generalize aPush c = q
  generalize (aLast c && true) = l
  rintro e w2 ⟨rfl, hb2⟩
  have hw2 := hw1.below hb2
  have T2 := T1.below hb2
  clear t0 t1
  have t0 := fun o => (T2.al o).c0
  have t1 := fun o => (T2.al o).c1
  go_wp2_with fail
  refine (right_any _ _ _ (hw2.alloc _)).mono ?_
  rw [HR.out]
  rintro e w3 ⟨rfl, hb3⟩
  have hw3 := (hw2.alloc _).below hb3
  have T3 := (T2.al _).below hb3
  clear t0 t1
  have t0 := T3.c0
  have t1 := T3.c1
  go_wp2_with fail
  refine (put_op _ _ _ hw3).mono ?_
  have hl := (size_list (opPut c a)).trans HL.out
  generalize opPut c a = L at hl
  rintro e w4 ⟨rfl, hb4⟩
  have T4 := T3.below hb4
  clear t0 t1
  have t0 := T4.c0
  have t1 := T4.c1
  go_wp2_with fail
  go_ret
  exact ⟨rfl, below_alloc_then (below_two hb1 (below_two hb2 (below_alloc_then (below_two hb3 hb4))))⟩
set_option maxHeartbeats 1000000 in
theorem opRight_high (c a : Int) (w : World) (hw : LaidOp w) (h0 : 1 ≤ c) (h1 : c ≤ 47) (h2 : 0 ≤ a) (h3 : 65535 < a) (x : Int) (hx : aArg c = x) (HK : Hid (aOk c = true)) (HR : Hid (rightB c a = false)) (HL : Hid ((opPut c a).length = 0)) :
    Calls Tryd.prog 5 #[.agg #[.int .i64 c, .int .i64 a]] w fun e w' => e = .returned (.bool true) ∧ Below w.heap.size w w' := by
  go_enter Tryd.func5, Tryd.ntmps5
  go_wp2_with fail
  refine (oexamples_any _ (hw.alloc _)).mono ?_
  rintro e w1 ⟨rfl, hb1⟩
  have hw1 := (hw.alloc _).below hb1
  have T1 := (Two.new w _ _ _).below hb1
  have t0 := T1.c0
  have t1 := T1.c1
  go_wp2_with fail
  refine (about_any _ _ hw1).mono ?_
  rw [HK.out, hx]
  generalize aName c = nm
  generalize aPop c = p
  generalize aPush c = q
  generalize (aLast c && true) = l
  rintro e w2 ⟨rfl, hb2⟩
  have hw2 := hw1.below hb2
  have T2 := T1.below hb2
  clear t0 t1
  have t0 := fun o => (T2.al o).c0
  have t1 := fun o => (T2.al o).c1
  go_wp2_with fail
  refine (right_any _ _ _ (hw2.alloc _)).mono ?_
  rw [HR.out]
  rintro e w3 ⟨rfl, hb3⟩
  have hw3 := (hw2.alloc _).below hb3
  have T3 := (T2.al _).below hb3
  clear t0 t1
  have t0 := T3.c0
  have t1 := T3.c1
  go_wp2_with fail
  refine (put_op _ _ _ hw3).mono ?_
  have hl := (size_list (opPut c a)).trans HL.out
  generalize opPut c a = L at hl
  rintro e w4 ⟨rfl, hb4⟩
  have T4 := T3.below hb4
  clear t0 t1
  have t0 := T4.c0
  have t1 := T4.c1
  go_wp2_with fail
  go_ret
  exact ⟨rfl, below_alloc_then (below_two hb1 (below_two hb2 (below_alloc_then (below_two hb3 hb4))))⟩
set_option maxHeartbeats 1000000 in
theorem opRight_arg (c a : Int) (w : World) (hw : LaidOp w) (h0 : 1 ≤ c) (h1 : c ≤ 47) (h2 : 0 ≤ a) (h3 : a ≤ 65535) (x : Int) (hx : aArg c = x) (h5 : (x == 0) = false) (h6 : ¬ x = 0) (HK : Hid (aOk c = true)) (HR : Hid (rightB c a = true)) (HL : Hid ((opPut c a).length = 3)) :
    Calls Tryd.prog 5 #[.agg #[.int .i64 c, .int .i64 a]] w fun e w' => e = .returned (.bool true) ∧ Below w.heap.size w w' := by
  go_enter Tryd.func5, Tryd.ntmps5
  go_wp2_with fail
  refine (oexamples_any _ (hw.alloc _)).mono ?_
  rintro e w1 ⟨rfl, hb1⟩
  have hw1 := (hw.alloc _).below hb1
  have T1 := (Two.new w _ _ _).below hb1
  have t0 := T1.c0
  have t1 := T1.c1
  go_wp2_with fail
  refine (about_any _ _ hw1).mono ?_
  rw [HK.out, hx]
  generalize aName c = nm
  generalize aPop c = p
  generalize aPush c = q
  generalize (aLast c && true) = l
  rintro e w2 ⟨rfl, hb2⟩
  have hw2 := hw1.below hb2
  have T2 := T1.below hb2
  clear t0 t1
  have t0 := fun o => (T2.al o).c0
  have t1 := fun o => (T2.al o).c1
  go_wp2_with fail
  refine (right_any _ _ _ (hw2.alloc _)).mono ?_
  rw [HR.out]
  rintro e w3 ⟨rfl, hb3⟩
  have hw3 := (hw2.alloc _).below hb3
  have T3 := (T2.al _).below hb3
  clear t0 t1
  have t0 := T3.c0
  have t1 := T3.c1
  go_wp2_with fail
  refine (put_op _ _ _ hw3).mono ?_
  have hl := (size_list (opPut c a)).trans HL.out
  generalize opPut c a = L at hl
  rintro e w4 ⟨rfl, hb4⟩
  have T4 := T3.below hb4
  clear t0 t1
  have t0 := T4.c0
  have t1 := T4.c1
  go_wp2_with fail
  go_ret
  exact ⟨rfl, below_alloc_then (below_two hb1 (below_two hb2 (below_alloc_then (below_two hb3 hb4))))⟩
set_option maxHeartbeats 1000000 in
theorem opRight_nil (c : Int) (w : World) (hw : LaidOp w) (h0 : 1 ≤ c) (h1 : c ≤ 47) (hx : aArg c = 0) (HK : Hid (aOk c = true)) (HR : Hid (rightB c 0 = true)) (HL : Hid ((opPut c 0).length = 1)) :
    Calls Tryd.prog 5 #[.agg #[.int .i64 c, .int .i64 0]] w fun e w' => e = .returned (.bool true) ∧ Below w.heap.size w w' := by
  go_enter Tryd.func5, Tryd.ntmps5
  go_wp2_with fail
  refine (oexamples_any _ (hw.alloc _)).mono ?_
  rintro e w1 ⟨rfl, hb1⟩
  have hw1 := (hw.alloc _).below hb1
  have T1 := (Two.new w _ _ _).below hb1
  have t0 := T1.c0
  have t1 := T1.c1
  go_wp2_with fail
  refine (about_any _ _ hw1).mono ?_
  rw [HK.out, hx]
  generalize aName c = nm
  generalize aPop c = p
  generalize aPush c = q
  generalize (aLast c && true) = l
  rintro e w2 ⟨rfl, hb2⟩
  have hw2 := hw1.below hb2
  have T2 := T1.below hb2
  clear t0 t1
  have t0 := fun o => (T2.al o).c0
  have t1 := fun o => (T2.al o).c1
  go_wp2_with fail
  refine (right_any _ _ _ (hw2.alloc _)).mono ?_
  rw [HR.out]
  rintro e w3 ⟨rfl, hb3⟩
  have hw3 := (hw2.alloc _).below hb3
  have T3 := (T2.al _).below hb3
  clear t0 t1
  have t0 := T3.c0
  have t1 := T3.c1
  go_wp2_with fail
  refine (put_op _ _ _ hw3).mono ?_
  have hl := (size_list (opPut c 0)).trans HL.out
  generalize opPut c 0 = L at hl
  rintro e w4 ⟨rfl, hb4⟩
  have T4 := T3.below hb4
  clear t0 t1
  have t0 := T4.c0
  have t1 := T4.c1
  go_wp2_with fail
  go_ret
  exact ⟨rfl, below_alloc_then (below_two hb1 (below_two hb2 (below_alloc_then (below_two hb3 hb4))))⟩
set_option maxHeartbeats 1000000 in
theorem opRight_bad (c a : Int) (w : World) (hw : LaidOp w) (h0 : 1 ≤ c) (h1 : c ≤ 47) (h2 : 0 ≤ a) (h3 : a ≤ 65535) (h4 : (a == 0) = false) (hx : aArg c = 0) (HK : Hid (aOk c = true)) (HR : Hid (rightB c a = false)) (HL : Hid ((opPut c a).length = 0)) :
    Calls Tryd.prog 5 #[.agg #[.int .i64 c, .int .i64 a]] w fun e w' => e = .returned (.bool true) ∧ Below w.heap.size w w' := by
  go_enter Tryd.func5, Tryd.ntmps5
  go_wp2_with fail
  refine (oexamples_any _ (hw.alloc _)).mono ?_
  rintro e w1 ⟨rfl, hb1⟩
  have hw1 := (hw.alloc _).below hb1
  have T1 := (Two.new w _ _ _).below hb1
  have t0 := T1.c0
  have t1 := T1.c1
  go_wp2_with fail
  refine (about_any _ _ hw1).mono ?_
  rw [HK.out, hx]
  generalize aName c = nm
  generalize aPop c = p
  generalize aPush c = q
  generalize (aLast c && true) = l
  rintro e w2 ⟨rfl, hb2⟩
  have hw2 := hw1.below hb2
  have T2 := T1.below hb2
  clear t0 t1
  have t0 := fun o => (T2.al o).c0
  have t1 := fun o => (T2.al o).c1
  go_wp2_with fail
  refine (right_any _ _ _ (hw2.alloc _)).mono ?_
  rw [HR.out]
  rintro e w3 ⟨rfl, hb3⟩
  have hw3 := (hw2.alloc _).below hb3
  have T3 := (T2.al _).below hb3
  clear t0 t1
  have t0 := T3.c0
  have t1 := T3.c1
  go_wp2_with fail
  refine (put_op _ _ _ hw3).mono ?_
  have hl := (size_list (opPut c a)).trans HL.out
  generalize opPut c a = L at hl
  rintro e w4 ⟨rfl, hb4⟩
  have T4 := T3.below hb4
  clear t0 t1
  have t0 := T4.c0
  have t1 := T4.c1
  go_wp2_with fail
  go_ret
  exact ⟨rfl, below_alloc_then (below_two hb1 (below_two hb2 (below_alloc_then (below_two hb3 hb4))))⟩
theorem opRight_walk (c a : Int) (_ : InI64 c) (_ : InI64 a) (w : World) (hw : LaidOp w) :
    Calls Tryd.prog 5 #[.agg #[.int .i64 c, .int .i64 a]] w fun e w' => e = .returned (.bool true) ∧ Below w.heap.size w w' := by
  by_cases h0 : 1 ≤ c
  · by_cases h1 : c ≤ 47
    · have hk : aOk c = true := by unfold aOk; simp; omega
      by_cases h2 : 0 ≤ a
      · by_cases h3 : a ≤ 65535
        · by_cases h4 : aArg c = 0
          · by_cases h5 : a = 0
            · subst h5
              have hr : rightB c 0 = true := by unfold rightB; rw [hk, h4]; rfl
              exact opRight_nil c w hw h0 h1 h4 (Lib.hid hk) (Lib.hid hr) (Lib.hid (by rw [opPut_len, if_pos hr]; unfold opSize; rw [if_pos h4]))
            · have hr : rightB c a = false := by unfold rightB; rw [hk, h4]; simp [h5]
              exact opRight_bad c a w hw h0 h1 h2 h3 (beq_eq_false_iff_ne.2 h5) h4 (Lib.hid hk) (Lib.hid hr) (Lib.hid (by rw [opPut_len, hr]; rfl))
          · have hr : rightB c a = true := by unfold rightB; rw [hk, if_neg h4]; simp [h2, h3]
            exact opRight_arg c a w hw h0 h1 h2 h3 _ rfl (beq_eq_false_iff_ne.2 h4) h4 (Lib.hid hk) (Lib.hid hr) (Lib.hid (by rw [opPut_len, if_pos hr]; unfold opSize; rw [if_neg h4]))
        · have hr : rightB c a = false := by
            cases hr : rightB c a with
            | false => rfl
            | true => have := (rightB_true hr).2.2.2; omega
          exact opRight_high c a w hw h0 h1 h2 (by omega) _ rfl (Lib.hid hk) (Lib.hid hr) (Lib.hid (by rw [opPut_len, hr]; rfl))
      · have hr : rightB c a = false := by
          cases hr : rightB c a with
          | false => rfl
          | true => have := (rightB_true hr).2.2.2; omega
        exact opRight_low c a w hw h0 h1 (by omega) _ rfl (Lib.hid hk) (Lib.hid hr) (Lib.hid (by rw [opPut_len, hr]; rfl))
    · have hk : aOk c = false := by unfold aOk; simp; omega
      have hr : rightB c a = false := by unfold rightB; rw [hk]; rfl
      exact opRight_no2 c a w hw h0 (by omega) (by simp; omega) _ rfl (Lib.hid hk) (Lib.hid hr) (Lib.hid (by rw [opPut_len, hr]; rfl))
  · have hk : aOk c = false := by unfold aOk; simp; omega
    have hr : rightB c a = false := by unfold rightB; rw [hk]; rfl
    exact opRight_no1 c a w hw (by omega) _ rfl (Lib.hid hk) (Lib.hid hr) (Lib.hid (by rw [opPut_len, hr]; rfl))
end Go.Proofs.YthplcmoojmnofaaDoor
