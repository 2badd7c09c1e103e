/- What is put is got where it stands, what is shown is parsed; two are put and shown alike just if they are the same; none has more than ten bytes. The walk: the law answers true; no memory that was there is turned. Conditions: the integers are of their kinds, a string has at most 140737488351232 bytes, the listed package variables hold what the program's text lays. -/
import Derived.Test.YtmaambggjdjodaaDoorNumLaws
namespace Go.Proofs.YtmaambggjdjodaaDoor
open Go.RowKit
theorem data_app (x y : ByteArray) : (x ++ y).data.toList = x.data.toList ++ y.data.toList := by rw [ByteArray.data_append]; simp
theorem size_len (x : ByteArray) : x.data.toList.length = x.size := Array.length_toList
theorem back1 (a b : Int) (ha : InI64 a) (x y : ByteArray) : getR (x ++ ⟨(putL a).toArray⟩ ++ ⟨(putL b).toArray⟩ ++ y).data.toList x.size = some (a, (x.size : Int) + ((putL a).length : Int)) := by
  have h := getR_putL a ha x.data.toList (putL b ++ y.data.toList)
  rw [size_len] at h
  rw [← Int.natCast_add, ← h, data_app, data_app, data_app]
  simp
theorem gsome (a b : Int) : gV (some (a, b)) = a ∧ gN (some (a, b)) = b ∧ gO (some (a, b)) = true := ⟨rfl, rfl, rfl⟩
theorem psome (n : Int) : pV (some n) = n ∧ pO (some n) = true := ⟨rfl, rfl⟩
theorem back2 (a b : Int) (hb : InI64 b) (x y : ByteArray) : getR (x ++ ⟨(putL a).toArray⟩ ++ ⟨(putL b).toArray⟩ ++ y).data.toList ((x.size : Int) + ((putL a).length : Int)) = some (b, (x.size : Int) + (putL a).length + (putL b).length) := by
  have h := getR_putL b hb (x.data.toList ++ putL a) y.data.toList
  rw [List.length_append, size_len] at h
  rw [← Int.natCast_add, ← Int.natCast_add, ← h, data_app, data_app, data_app]
set_option maxHeartbeats 1000000 in
theorem numBack_walk (a b : Int) (ahead behind : ByteArray) (ha : InI64 a) (hbb : InI64 b) (hx : ahead.size ≤ 140737488351232) (hy : behind.size ≤ 140737488351232) (w : World) (hw : Laid w) :
    Calls Tryd.prog 7 #[.int .i64 a, .int .i64 b, .string ahead, .string behind] w fun e w' => e = .returned (.bool true) ∧ Below w.heap.size w w' := by
  have l1 := putL_length a
  have l2 := putL_length b
  have B1 := Lib.hid (back1 a b ha ahead behind)
  have B2 := Lib.hid (back2 a b hbb ahead behind)
  have q1 : (putL a == putL b) = (a == b) := by
    by_cases h : a = b
    · subst h; simp
    · rw [beq_eq_false_iff_ne.2 h, beq_eq_false_iff_ne]
      exact fun e => h (putL_inj ha hbb e)
  have q2 : (Lib.itoa a == Lib.itoa b) = (a == b) := by
    by_cases h : a = b
    · subst h; simp
    · rw [beq_eq_false_iff_ne.2 h, beq_eq_false_iff_ne]
      exact fun e => h (itoa_inj ha hbb e)
  have P1 : Hid (parseS (⟨(Lib.itoa a).toArray⟩ : ByteArray).data.toList = some a) := Lib.hid (parseS_eq _ a ha (by simp))
  have hsz : (ahead ++ ⟨(putL a).toArray⟩ ++ ⟨(putL b).toArray⟩ ++ behind).size ≤ 9223372036854775807 := by
    rw [ByteArray.size_append, ByteArray.size_append, ByteArray.size_append]
    simp only [ByteArray.size, List.size_toArray] at hx hy ⊢
    omega
  have l3 := itoa_len a ha
  have d10 : decide (((putL a).length : Int) ≤ 10) = true := by simp; omega
  go_enter Tryd.func7, Tryd.ntmps7
  go_wp2_with fail
  refine (examples_any _ hw).mono ?_
  rintro e w1 ⟨rfl, hb1⟩
  have hw1 := hw.below hb1
  go_wp2_with fail
  refine (put_any _ _ ha).mono ?_
  rintro e w2 ⟨rfl, hb2⟩
  have hw2 := hw1.below hb2
  go_wp2_with fail
  refine (put_any _ _ hbb).mono ?_
  rintro e w3 ⟨rfl, hb3⟩
  have hw3 := hw2.below hb3
  go_wp2_with fail
  refine (get_t _ _ _ hsz).mono ?_
  rw [B1.out, (gsome _ _).1, (gsome _ _).2.1, (gsome _ _).2.2]
  rintro e _ ⟨rfl, rfl⟩
  go_wp2_with fail
  refine (get_t _ _ _ hsz).mono ?_
  rw [B2.out, (gsome _ _).1, (gsome _ _).2.1, (gsome _ _).2.2]
  rintro e _ ⟨rfl, rfl⟩
  go_wp2_with fail
  refine (text_any _ _ ha hw3).mono ?_
  rintro e w4 ⟨rfl, hb4⟩
  have hw4 := hw3.below hb4
  go_wp2_with fail
  refine (parse_t ⟨(Lib.itoa a).toArray⟩ _ (by simp [ByteArray.size]; omega) hw4).mono ?_
  rw [P1.out, (psome _).1, (psome _).2]
  rintro e w5 ⟨rfl, hb5⟩
  have hw5 := hw4.below hb5
  go_wp2_with fail
  refine (put_any _ _ ha).mono ?_
  rintro e w6 ⟨rfl, hb6⟩
  have hw6 := hw5.below hb6
  go_wp2_with fail
  refine (put_any _ _ hbb).mono ?_
  rintro e w7 ⟨rfl, hb7⟩
  have hw7 := hw6.below hb7
  go_wp2_with fail
  refine (text_any _ _ ha hw7).mono ?_
  rintro e w8 ⟨rfl, hb8⟩
  have hw8 := hw7.below hb8
  go_wp2_with fail
  refine (text_any _ _ hbb hw8).mono ?_
  rintro e w9 ⟨rfl, hb9⟩
  have hw9 := hw8.below hb9
  go_wp2_with fail
  refine (put_any _ _ ha).mono ?_
  rintro e w10 ⟨rfl, hb10⟩
  have hw10 := hw9.below hb10
  go_wp2_with fail
  go_ret
  exact ⟨rfl, (below_two hb1 (below_two hb2 (below_two hb3 (below_two hb4 (below_two hb5 (below_two hb6 (below_two hb7 (below_two hb8 (below_two hb9 hb10)))))))))⟩
end Go.Proofs.YtmaambggjdjodaaDoor
