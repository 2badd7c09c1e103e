/- label.Text; val.Right, Handle, word, Put, Text. -/
import Derived.Test.YtiggallcoocdaaaGreatDoorCTextA
import Derived.Test.YtiggallcoocdaaaGreatDoorZ2
import Derived.Test.YtiggallcoocdaaaGreatDoorNumText
import Derived.Test.YtiggallcoocdaaaGreatDoorZ3
namespace Go.Proofs.YtiggallcoocdaaaGreatDoor
open Go.RowKit
structure LaidV (w : World) : Prop where
  lib : Laid w
  ltr : Letters w
theorem LaidV.below {w w' : World} (h : LaidV w) (hb : Below w.heap.size w w') : LaidV w' := ⟨h.lib.below hb, h.ltr.below hb⟩
theorem LaidV.alloc {w : World} (h : LaidV w) (o : Obj) : LaidV (w.alloc o) := ⟨h.lib.alloc o, h.ltr.alloc o⟩
theorem LaidV.after {w : World} (h : LaidV w) (p : After w) : LaidV p.world := h.below p.h
set_option maxRecDepth 100000 in
set_option maxHeartbeats 1000000 in
theorem ltext_any (S I : ByteArray) (hS : S.size ≤ 140737488351232) (hI : I.size ≤ 140737488351232) (w : World) (hw : LaidV w) :
    Calls Tryz.prog 26 #[.agg #[.string S, .string I]] w fun e w' => e = .returned (.string ⟨(lb S I).text.toArray⟩) ∧ Below w.heap.size w w' := by
  have h1 := fun w => ctext_any S hS w
  have h2 := fun w => ctext_any I hI w
  have hR : Hid (Ending.returned (.string ((⟨(textFm S.data.toList).toArray⟩ ++ ⟨#[47]⟩) ++ ⟨(textFm I.data.toList).toArray⟩)) = .returned (.string ⟨(lb S I).text.toArray⟩)) := Lib.hid (ret_str (by
    unfold lb Lb.text
    apply ByteArray.ext
    simp [ByteArray.data_append]))
  obtain ⟨A, hA⟩ : ∃ A, A = Ending.returned (.string ⟨(lb S I).text.toArray⟩) := ⟨_, rfl⟩
  rw [← hA] at hR ⊢
  clear hA
  obtain ⟨P1, hP1⟩ : ∃ x, x = textFm S.data.toList := ⟨_, rfl⟩
  obtain ⟨P2, hP2⟩ : ∃ x, x = textFm I.data.toList := ⟨_, rfl⟩
  rw [← hP1] at h1 hR
  rw [← hP2] at h2 hR
  have l1 : P1.length ≤ 769 := by rw [hP1]; exact textFm_length _
  have l2 : P2.length ≤ 769 := by rw [hP2]; exact textFm_length _
  clear hP1 hP2
  go_enter Tryz.func26, Tryz.ntmps26
  have hB0 := Below.refl w.heap.size w
  have M0 := Mem.nil w
  go_upto_region 1 with (fail)
  refine wp_named ?_
  intro w1 hW1
  have hB1 : Below w.heap.size w w1 := by rw [hW1]; exact (below_al hB0 _)
  have hw1 : LaidV w1 := by rw [hW1]; exact (hw.alloc _)
  have M1 := (M0).new' (w.heap.size) (by rfl) (.cells #[.string S, .string I] 48)
  rw [← hW1] at M1
  clear hW1
  have c1_0_0 := Mem.cell (v := .string S) M1.1 0 rfl
  have c1_0_1 := Mem.cell (v := .string I) M1.1 1 rfl
  have z1_0 := Mem.lt M1.1
  have p1_0_0 := fun p : After w1 => Mem.cell (v := .string S) (Mem.after M1 p).1 0 rfl
  have p1_0_1 := fun p : After w1 => Mem.cell (v := .string I) (Mem.after M1 p).1 1 rfl
  refine wp_region_after (by kernel_rfl) (by kernel_rfl) ?_
  repeat (go_big_quiet_step ((first | (go_at_call 46; with_reducible exact After.call (h1 _ ((LaidV.after hw1 _)).ltr)) | (go_at_call 46; with_reducible exact After.call (h2 _ ((LaidV.after hw1 _)).ltr)))))
  refine wpQuiet_nil ?_
  rintro _ ⟨p1, rfl⟩
  clear p1_0_0 p1_0_1
  clear c1_0_0 c1_0_1 z1_0
  obtain ⟨w2, hW2⟩ : ∃ x, x = p1.world := ⟨_, rfl⟩
  have hB2 : Below w.heap.size w w2 := by rw [hW2]; exact below_then hB1 p1.h
  have hw2 : LaidV w2 := by rw [hW2]; exact hw1.below p1.h
  have M2 := M1.below p1.h
  rw [← hW2] at M2
  rw [← hW2]
  clear hW2
  clear p1
  have c2_0_0 := Mem.cell (v := .string S) M2.1 0 rfl
  have c2_0_1 := Mem.cell (v := .string I) M2.1 1 rfl
  have z2_0 := Mem.lt M2.1
  go_wp2
  go_ret
  exact ⟨hR.out, hB2⟩
theorem nright_v (s : ByteArray) (w : World) (hs : s.size ≤ 140737488351232) (hw : LaidV w) :
    Calls Tryz.prog 51 #[.string s] w fun e w' => e = .returned (.bool (readL s.data.toList).isSome) ∧ Below w.heap.size w w' := by
  go_enter Tryz.func51, Tryz.ntmps51
  go_wp2_with fail
  refine (read_any s _ hs hw.lib).mono ?_
  rintro e w1 ⟨v, rfl, hrow, hb, hnil⟩
  clear hrow hnil
  go_wp2_with fail
  go_ret
  exact ⟨rfl, hb⟩
set_option maxRecDepth 100000 in
set_option maxHeartbeats 1000000 in
theorem vright1 (n : Int) (m s i : ByteArray) (w : World) :
    Calls Tryz.prog 34 #[.agg #[.int .i64 1, .int .i64 n, .string m, .string s, .string i]] w fun e w' => e = .returned (.bool (vl 1 n m s i).right) ∧ Below w.heap.size w w' := by
  rw [right1]
  cases hm : m.toList.isEmpty <;> cases hs : s.toList.isEmpty <;> cases hi : i.toList.isEmpty
  all_goals
    go_enter Tryz.func34, Tryz.ntmps34
    have hB0 := Below.refl w.heap.size w
    have M0 := Mem.nil w
    go_wp2
    go_ret
    exact ⟨rfl, below_al hB0 _⟩
set_option maxRecDepth 100000 in
set_option maxHeartbeats 1000000 in
theorem vright2 (n : Int) (m s i : ByteArray) (hs : s.size ≤ 140737488351232) (hi : i.size ≤ 140737488351232) (w : World) :
    Calls Tryz.prog 34 #[.agg #[.int .i64 2, .int .i64 n, .string m, .string s, .string i]] w fun e w' => e = .returned (.bool (vl 2 n m s i).right) ∧ Below w.heap.size w w' := by
  have hl := lright_any s i hs hi
  rw [right2]
  obtain ⟨R, hR⟩ : ∃ R, R = (lb s i).right := ⟨_, rfl⟩
  rw [← hR] at hl ⊢
  clear hR
  cases hn : (n == 0) with
  | false =>
    have hR : Hid (Ending.returned (.bool (false && m.toList.isEmpty && R)) = .returned (.bool false)) := Lib.hid rfl
    rw [hR.out]
    go_enter Tryz.func34, Tryz.ntmps34
    have hB0 := Below.refl w.heap.size w
    have M0 := Mem.nil w
    go_wp2_with fail
    go_ret
    exact ⟨rfl, below_al hB0 _⟩
  | true =>
    obtain rfl : n = 0 := eq_of_beq hn
    clear hn
    cases hm : m.toList.isEmpty with
    | false =>
      have hR : Hid (Ending.returned (.bool (true && false && R)) = .returned (.bool false)) := Lib.hid rfl
      rw [hR.out]
      go_enter Tryz.func34, Tryz.ntmps34
      have hB0 := Below.refl w.heap.size w
      have M0 := Mem.nil w
      go_wp2_with fail
      go_ret
      exact ⟨rfl, below_al hB0 _⟩
    | true =>
      have hR : Hid (Ending.returned (.bool (true && true && R)) = .returned (.bool R)) := Lib.hid rfl
      rw [hR.out]
      go_enter Tryz.func34, Tryz.ntmps34
      have hB0 := Below.refl w.heap.size w
      have M0 := Mem.nil w
      go_wp2_with fail
      refine Calls.named ?_
      intro W1 hW1
      have hB1_ : Below w.heap.size w W1 := by rw [hW1]; exact (below_al hB0 _)
      have M1_ := (M0).new' (w.heap.size) (by rfl) (.cells #[.int .i64 2, .int .i64 0, .string m, .string s, .string i] 50)
      rw [← hW1] at M1_
      clear hW1
      have ZZ1_0 := Lib.hid (Mem.lt M1_.1)
      refine (hl _).mono ?_
      rintro e w1 ⟨rfl, hb1⟩
      have hB1 := below_then hB1_ hb1
      have M1 := M1_.below hb1
      clear M1_ hB1_ hb1
      have c1_0_0 := Mem.cell (v := .int .i64 2) M1.1 0 rfl
      have c1_0_1 := Mem.cell (v := .int .i64 0) M1.1 1 rfl
      have c1_0_2 := Mem.cell (v := .string m) M1.1 2 rfl
      have c1_0_3 := Mem.cell (v := .string s) M1.1 3 rfl
      have c1_0_4 := Mem.cell (v := .string i) M1.1 4 rfl
      have z1_0 := Mem.lt M1.1
      go_wp2_with fail
      go_ret
      exact ⟨rfl, hB1⟩
theorem int_ne {k j : Int} (h : k ≠ j) : (k == j) = false := beq_eq_false_iff_ne.2 h
set_option maxRecDepth 100000 in
set_option maxHeartbeats 1000000 in
theorem vright0 (k n : Int) (m s i : ByteArray) (w : World) (hk : k < 1 ∨ 7 < k) :
    Calls Tryz.prog 34 #[.agg #[.int .i64 k, .int .i64 n, .string m, .string s, .string i]] w fun e w' => e = .returned (.bool (vl k n m s i).right) ∧ Below w.heap.size w w' := by
  rw [right0 hk]
  have k1 := int_ne (k := k) (j := 1) (by omega)
  have k2 := int_ne (k := k) (j := 2) (by omega)
  have k3 := int_ne (k := k) (j := 3) (by omega)
  have k4 := int_ne (k := k) (j := 4) (by omega)
  have k5 := int_ne (k := k) (j := 5) (by omega)
  have k6 := int_ne (k := k) (j := 6) (by omega)
  have k7 := int_ne (k := k) (j := 7) (by omega)
  clear hk
  go_enter Tryz.func34, Tryz.ntmps34
  have hB0 := Below.refl w.heap.size w
  have M0 := Mem.nil w
  go_wp2_with fail
  go_ret
  exact ⟨rfl, below_al hB0 _⟩
set_option maxRecDepth 100000 in
set_option maxHeartbeats 2000000 in
theorem vright3 (k n : Int) (m s i : ByteArray) (hk : 3 ≤ k ∧ k ≤ 7) (hm : m.size ≤ 140737488351232) (hs : s.size ≤ 140737488351232) (hi : i.size ≤ 140737488351232) (w : World) (hw : LaidV w) :
    Calls Tryz.prog 34 #[.agg #[.int .i64 k, .int .i64 n, .string m, .string s, .string i]] w fun e w' => e = .returned (.bool (vl k n m s i).right) ∧ Below w.heap.size w w' := by
  rw [right3 hk.1 hk.2]
  have hl := lright_any s i hs hi
  have hnm := fun w => nright_v m w hm
  obtain ⟨R, hR⟩ : ∃ R, R = (lb s i).right := ⟨_, rfl⟩
  obtain ⟨R2, hR2⟩ : ∃ R, R = (readL m.data.toList).isSome := ⟨_, rfl⟩
  rw [← hR] at hl ⊢
  rw [← hR2] at hnm ⊢
  clear hR hR2
  have hcase : k = 3 ∨ k = 4 ∨ k = 5 ∨ k = 6 ∨ k = 7 := by omega
  clear hk
  cases hn : (n == 0) with
  | false =>
    have hR : Hid (Ending.returned (.bool (false && R2 && R)) = .returned (.bool false)) := Lib.hid rfl
    rw [hR.out]
    rcases hcase with rfl | rfl | rfl | rfl | rfl
    all_goals
      go_enter Tryz.func34, Tryz.ntmps34
      have hB0 := Below.refl w.heap.size w
      have M0 := Mem.nil w
      go_wp2_with fail
      go_ret
      exact ⟨rfl, below_al hB0 _⟩
  | true =>
    obtain rfl : n = 0 := eq_of_beq hn
    clear hn
    cases R2 with
    | false =>
      have hR : Hid (Ending.returned (.bool (true && false && R)) = .returned (.bool false)) := Lib.hid rfl
      rw [hR.out]
      rcases hcase with rfl | rfl | rfl | rfl | rfl
      · skip
        go_enter Tryz.func34, Tryz.ntmps34
        have hB0 := Below.refl w.heap.size w
        have M0 := Mem.nil w
        go_wp2_with fail
        refine Calls.named ?_
        intro W1 hW1
        have hB1_ : Below w.heap.size w W1 := by rw [hW1]; exact (below_al hB0 _)
        have hw1_ : LaidV W1 := by rw [hW1]; exact (hw.alloc _)
        have M1_ := (M0).new' (w.heap.size) (by rfl) (.cells #[.int .i64 3, .int .i64 0, .string m, .string s, .string i] 50)
        rw [← hW1] at M1_
        clear hW1
        have ZZ1_0 := Lib.hid (Mem.lt M1_.1)
        refine (hnm _ hw1_).mono ?_
        rintro e w1 ⟨rfl, hb1⟩
        have hB1 := below_then hB1_ hb1
        have hw1 := hw1_.below hb1
        have M1 := M1_.below hb1
        clear M1_ hB1_ hb1 hw1_
        have c1_0_0 := Mem.cell (v := .int .i64 3) M1.1 0 rfl
        have c1_0_1 := Mem.cell (v := .int .i64 0) M1.1 1 rfl
        have c1_0_2 := Mem.cell (v := .string m) M1.1 2 rfl
        have c1_0_3 := Mem.cell (v := .string s) M1.1 3 rfl
        have c1_0_4 := Mem.cell (v := .string i) M1.1 4 rfl
        have z1_0 := Mem.lt M1.1
        go_wp2_with fail
        go_ret
        exact ⟨rfl, hB1⟩
      · skip
        go_enter Tryz.func34, Tryz.ntmps34
        have hB0 := Below.refl w.heap.size w
        have M0 := Mem.nil w
        go_wp2_with fail
        refine Calls.named ?_
        intro W1 hW1
        have hB1_ : Below w.heap.size w W1 := by rw [hW1]; exact (below_al hB0 _)
        have hw1_ : LaidV W1 := by rw [hW1]; exact (hw.alloc _)
        have M1_ := (M0).new' (w.heap.size) (by rfl) (.cells #[.int .i64 4, .int .i64 0, .string m, .string s, .string i] 50)
        rw [← hW1] at M1_
        clear hW1
        have ZZ1_0 := Lib.hid (Mem.lt M1_.1)
        refine (hnm _ hw1_).mono ?_
        rintro e w1 ⟨rfl, hb1⟩
        have hB1 := below_then hB1_ hb1
        have hw1 := hw1_.below hb1
        have M1 := M1_.below hb1
        clear M1_ hB1_ hb1 hw1_
        have c1_0_0 := Mem.cell (v := .int .i64 4) M1.1 0 rfl
        have c1_0_1 := Mem.cell (v := .int .i64 0) M1.1 1 rfl
        have c1_0_2 := Mem.cell (v := .string m) M1.1 2 rfl
        have c1_0_3 := Mem.cell (v := .string s) M1.1 3 rfl
        have c1_0_4 := Mem.cell (v := .string i) M1.1 4 rfl
        have z1_0 := Mem.lt M1.1
        go_wp2_with fail
        go_ret
        exact ⟨rfl, hB1⟩
      · skip
        go_enter Tryz.func34, Tryz.ntmps34
        have hB0 := Below.refl w.heap.size w
        have M0 := Mem.nil w
        go_wp2_with fail
        refine Calls.named ?_
        intro W1 hW1
        have hB1_ : Below w.heap.size w W1 := by rw [hW1]; exact (below_al hB0 _)
        have hw1_ : LaidV W1 := by rw [hW1]; exact (hw.alloc _)
        have M1_ := (M0).new' (w.heap.size) (by rfl) (.cells #[.int .i64 5, .int .i64 0, .string m, .string s, .string i] 50)
        rw [← hW1] at M1_
        clear hW1
        have ZZ1_0 := Lib.hid (Mem.lt M1_.1)
        refine (hnm _ hw1_).mono ?_
        rintro e w1 ⟨rfl, hb1⟩
        have hB1 := below_then hB1_ hb1
        have hw1 := hw1_.below hb1
        have M1 := M1_.below hb1
        clear M1_ hB1_ hb1 hw1_
        have c1_0_0 := Mem.cell (v := .int .i64 5) M1.1 0 rfl
        have c1_0_1 := Mem.cell (v := .int .i64 0) M1.1 1 rfl
        have c1_0_2 := Mem.cell (v := .string m) M1.1 2 rfl
        have c1_0_3 := Mem.cell (v := .string s) M1.1 3 rfl
        have c1_0_4 := Mem.cell (v := .string i) M1.1 4 rfl
        have z1_0 := Mem.lt M1.1
        go_wp2_with fail
        go_ret
        exact ⟨rfl, hB1⟩
      · skip
        go_enter Tryz.func34, Tryz.ntmps34
        have hB0 := Below.refl w.heap.size w
        have M0 := Mem.nil w
        go_wp2_with fail
        refine Calls.named ?_
        intro W1 hW1
        have hB1_ : Below w.heap.size w W1 := by rw [hW1]; exact (below_al hB0 _)
        have hw1_ : LaidV W1 := by rw [hW1]; exact (hw.alloc _)
        have M1_ := (M0).new' (w.heap.size) (by rfl) (.cells #[.int .i64 6, .int .i64 0, .string m, .string s, .string i] 50)
        rw [← hW1] at M1_
        clear hW1
        have ZZ1_0 := Lib.hid (Mem.lt M1_.1)
        refine (hnm _ hw1_).mono ?_
        rintro e w1 ⟨rfl, hb1⟩
        have hB1 := below_then hB1_ hb1
        have hw1 := hw1_.below hb1
        have M1 := M1_.below hb1
        clear M1_ hB1_ hb1 hw1_
        have c1_0_0 := Mem.cell (v := .int .i64 6) M1.1 0 rfl
        have c1_0_1 := Mem.cell (v := .int .i64 0) M1.1 1 rfl
        have c1_0_2 := Mem.cell (v := .string m) M1.1 2 rfl
        have c1_0_3 := Mem.cell (v := .string s) M1.1 3 rfl
        have c1_0_4 := Mem.cell (v := .string i) M1.1 4 rfl
        have z1_0 := Mem.lt M1.1
        go_wp2_with fail
        go_ret
        exact ⟨rfl, hB1⟩
      · skip
        go_enter Tryz.func34, Tryz.ntmps34
        have hB0 := Below.refl w.heap.size w
        have M0 := Mem.nil w
        go_wp2_with fail
        refine Calls.named ?_
        intro W1 hW1
        have hB1_ : Below w.heap.size w W1 := by rw [hW1]; exact (below_al hB0 _)
        have hw1_ : LaidV W1 := by rw [hW1]; exact (hw.alloc _)
        have M1_ := (M0).new' (w.heap.size) (by rfl) (.cells #[.int .i64 7, .int .i64 0, .string m, .string s, .string i] 50)
        rw [← hW1] at M1_
        clear hW1
        have ZZ1_0 := Lib.hid (Mem.lt M1_.1)
        refine (hnm _ hw1_).mono ?_
        rintro e w1 ⟨rfl, hb1⟩
        have hB1 := below_then hB1_ hb1
        have hw1 := hw1_.below hb1
        have M1 := M1_.below hb1
        clear M1_ hB1_ hb1 hw1_
        have c1_0_0 := Mem.cell (v := .int .i64 7) M1.1 0 rfl
        have c1_0_1 := Mem.cell (v := .int .i64 0) M1.1 1 rfl
        have c1_0_2 := Mem.cell (v := .string m) M1.1 2 rfl
        have c1_0_3 := Mem.cell (v := .string s) M1.1 3 rfl
        have c1_0_4 := Mem.cell (v := .string i) M1.1 4 rfl
        have z1_0 := Mem.lt M1.1
        go_wp2_with fail
        go_ret
        exact ⟨rfl, hB1⟩
    | true =>
      have hR : Hid (Ending.returned (.bool (true && true && R)) = .returned (.bool R)) := Lib.hid rfl
      rw [hR.out]
      rcases hcase with rfl | rfl | rfl | rfl | rfl
      · skip
        go_enter Tryz.func34, Tryz.ntmps34
        have hB0 := Below.refl w.heap.size w
        have M0 := Mem.nil w
        go_wp2_with fail
        refine Calls.named ?_
        intro W1 hW1
        have hB1_ : Below w.heap.size w W1 := by rw [hW1]; exact (below_al hB0 _)
        have hw1_ : LaidV W1 := by rw [hW1]; exact (hw.alloc _)
        have M1_ := (M0).new' (w.heap.size) (by rfl) (.cells #[.int .i64 3, .int .i64 0, .string m, .string s, .string i] 50)
        rw [← hW1] at M1_
        clear hW1
        have ZZ1_0 := Lib.hid (Mem.lt M1_.1)
        refine (hnm _ hw1_).mono ?_
        rintro e w1 ⟨rfl, hb1⟩
        have hB1 := below_then hB1_ hb1
        have hw1 := hw1_.below hb1
        have M1 := M1_.below hb1
        clear M1_ hB1_ hb1 hw1_
        have c1_0_0 := Mem.cell (v := .int .i64 3) M1.1 0 rfl
        have c1_0_1 := Mem.cell (v := .int .i64 0) M1.1 1 rfl
        have c1_0_2 := Mem.cell (v := .string m) M1.1 2 rfl
        have c1_0_3 := Mem.cell (v := .string s) M1.1 3 rfl
        have c1_0_4 := Mem.cell (v := .string i) M1.1 4 rfl
        have z1_0 := Mem.lt M1.1
        go_wp2_with fail
        refine Calls.named ?_
        intro W2 hW2
        have hB2_ : Below w.heap.size w W2 := by rw [hW2]; exact hB1
        have hw2_ : LaidV W2 := by rw [hW2]; exact hw1
        have M2_ := M1
        rw [← hW2] at M2_
        clear hW2
        have ZZ2_0 := Lib.hid (Mem.lt M2_.1)
        clear c1_0_0 c1_0_1 c1_0_2 c1_0_3 c1_0_4 z1_0
        refine (hl _).mono ?_
        rintro e w2 ⟨rfl, hb2⟩
        have hB2 := below_then hB2_ hb2
        have hw2 := hw2_.below hb2
        have M2 := M2_.below hb2
        clear M2_ hB2_ hb2 hw2_
        have c2_0_0 := Mem.cell (v := .int .i64 3) M2.1 0 rfl
        have c2_0_1 := Mem.cell (v := .int .i64 0) M2.1 1 rfl
        have c2_0_2 := Mem.cell (v := .string m) M2.1 2 rfl
        have c2_0_3 := Mem.cell (v := .string s) M2.1 3 rfl
        have c2_0_4 := Mem.cell (v := .string i) M2.1 4 rfl
        have z2_0 := Mem.lt M2.1
        go_wp2_with fail
        go_ret
        exact ⟨rfl, hB2⟩
      · skip
        go_enter Tryz.func34, Tryz.ntmps34
        have hB0 := Below.refl w.heap.size w
        have M0 := Mem.nil w
        go_wp2_with fail
        refine Calls.named ?_
        intro W1 hW1
        have hB1_ : Below w.heap.size w W1 := by rw [hW1]; exact (below_al hB0 _)
        have hw1_ : LaidV W1 := by rw [hW1]; exact (hw.alloc _)
        have M1_ := (M0).new' (w.heap.size) (by rfl) (.cells #[.int .i64 4, .int .i64 0, .string m, .string s, .string i] 50)
        rw [← hW1] at M1_
        clear hW1
        have ZZ1_0 := Lib.hid (Mem.lt M1_.1)
        refine (hnm _ hw1_).mono ?_
        rintro e w1 ⟨rfl, hb1⟩
        have hB1 := below_then hB1_ hb1
        have hw1 := hw1_.below hb1
        have M1 := M1_.below hb1
        clear M1_ hB1_ hb1 hw1_
        have c1_0_0 := Mem.cell (v := .int .i64 4) M1.1 0 rfl
        have c1_0_1 := Mem.cell (v := .int .i64 0) M1.1 1 rfl
        have c1_0_2 := Mem.cell (v := .string m) M1.1 2 rfl
        have c1_0_3 := Mem.cell (v := .string s) M1.1 3 rfl
        have c1_0_4 := Mem.cell (v := .string i) M1.1 4 rfl
        have z1_0 := Mem.lt M1.1
        go_wp2_with fail
        refine Calls.named ?_
        intro W2 hW2
        have hB2_ : Below w.heap.size w W2 := by rw [hW2]; exact hB1
        have hw2_ : LaidV W2 := by rw [hW2]; exact hw1
        have M2_ := M1
        rw [← hW2] at M2_
        clear hW2
        have ZZ2_0 := Lib.hid (Mem.lt M2_.1)
        clear c1_0_0 c1_0_1 c1_0_2 c1_0_3 c1_0_4 z1_0
        refine (hl _).mono ?_
        rintro e w2 ⟨rfl, hb2⟩
        have hB2 := below_then hB2_ hb2
        have hw2 := hw2_.below hb2
        have M2 := M2_.below hb2
        clear M2_ hB2_ hb2 hw2_
        have c2_0_0 := Mem.cell (v := .int .i64 4) M2.1 0 rfl
        have c2_0_1 := Mem.cell (v := .int .i64 0) M2.1 1 rfl
        have c2_0_2 := Mem.cell (v := .string m) M2.1 2 rfl
        have c2_0_3 := Mem.cell (v := .string s) M2.1 3 rfl
        have c2_0_4 := Mem.cell (v := .string i) M2.1 4 rfl
        have z2_0 := Mem.lt M2.1
        go_wp2_with fail
        go_ret
        exact ⟨rfl, hB2⟩
      · skip
        go_enter Tryz.func34, Tryz.ntmps34
        have hB0 := Below.refl w.heap.size w
        have M0 := Mem.nil w
        go_wp2_with fail
        refine Calls.named ?_
        intro W1 hW1
        have hB1_ : Below w.heap.size w W1 := by rw [hW1]; exact (below_al hB0 _)
        have hw1_ : LaidV W1 := by rw [hW1]; exact (hw.alloc _)
        have M1_ := (M0).new' (w.heap.size) (by rfl) (.cells #[.int .i64 5, .int .i64 0, .string m, .string s, .string i] 50)
        rw [← hW1] at M1_
        clear hW1
        have ZZ1_0 := Lib.hid (Mem.lt M1_.1)
        refine (hnm _ hw1_).mono ?_
        rintro e w1 ⟨rfl, hb1⟩
        have hB1 := below_then hB1_ hb1
        have hw1 := hw1_.below hb1
        have M1 := M1_.below hb1
        clear M1_ hB1_ hb1 hw1_
        have c1_0_0 := Mem.cell (v := .int .i64 5) M1.1 0 rfl
        have c1_0_1 := Mem.cell (v := .int .i64 0) M1.1 1 rfl
        have c1_0_2 := Mem.cell (v := .string m) M1.1 2 rfl
        have c1_0_3 := Mem.cell (v := .string s) M1.1 3 rfl
        have c1_0_4 := Mem.cell (v := .string i) M1.1 4 rfl
        have z1_0 := Mem.lt M1.1
        go_wp2_with fail
        refine Calls.named ?_
        intro W2 hW2
        have hB2_ : Below w.heap.size w W2 := by rw [hW2]; exact hB1
        have hw2_ : LaidV W2 := by rw [hW2]; exact hw1
        have M2_ := M1
        rw [← hW2] at M2_
        clear hW2
        have ZZ2_0 := Lib.hid (Mem.lt M2_.1)
        clear c1_0_0 c1_0_1 c1_0_2 c1_0_3 c1_0_4 z1_0
        refine (hl _).mono ?_
        rintro e w2 ⟨rfl, hb2⟩
        have hB2 := below_then hB2_ hb2
        have hw2 := hw2_.below hb2
        have M2 := M2_.below hb2
        clear M2_ hB2_ hb2 hw2_
        have c2_0_0 := Mem.cell (v := .int .i64 5) M2.1 0 rfl
        have c2_0_1 := Mem.cell (v := .int .i64 0) M2.1 1 rfl
        have c2_0_2 := Mem.cell (v := .string m) M2.1 2 rfl
        have c2_0_3 := Mem.cell (v := .string s) M2.1 3 rfl
        have c2_0_4 := Mem.cell (v := .string i) M2.1 4 rfl
        have z2_0 := Mem.lt M2.1
        go_wp2_with fail
        go_ret
        exact ⟨rfl, hB2⟩
      · skip
        go_enter Tryz.func34, Tryz.ntmps34
        have hB0 := Below.refl w.heap.size w
        have M0 := Mem.nil w
        go_wp2_with fail
        refine Calls.named ?_
        intro W1 hW1
        have hB1_ : Below w.heap.size w W1 := by rw [hW1]; exact (below_al hB0 _)
        have hw1_ : LaidV W1 := by rw [hW1]; exact (hw.alloc _)
        have M1_ := (M0).new' (w.heap.size) (by rfl) (.cells #[.int .i64 6, .int .i64 0, .string m, .string s, .string i] 50)
        rw [← hW1] at M1_
        clear hW1
        have ZZ1_0 := Lib.hid (Mem.lt M1_.1)
        refine (hnm _ hw1_).mono ?_
        rintro e w1 ⟨rfl, hb1⟩
        have hB1 := below_then hB1_ hb1
        have hw1 := hw1_.below hb1
        have M1 := M1_.below hb1
        clear M1_ hB1_ hb1 hw1_
        have c1_0_0 := Mem.cell (v := .int .i64 6) M1.1 0 rfl
        have c1_0_1 := Mem.cell (v := .int .i64 0) M1.1 1 rfl
        have c1_0_2 := Mem.cell (v := .string m) M1.1 2 rfl
        have c1_0_3 := Mem.cell (v := .string s) M1.1 3 rfl
        have c1_0_4 := Mem.cell (v := .string i) M1.1 4 rfl
        have z1_0 := Mem.lt M1.1
        go_wp2_with fail
        refine Calls.named ?_
        intro W2 hW2
        have hB2_ : Below w.heap.size w W2 := by rw [hW2]; exact hB1
        have hw2_ : LaidV W2 := by rw [hW2]; exact hw1
        have M2_ := M1
        rw [← hW2] at M2_
        clear hW2
        have ZZ2_0 := Lib.hid (Mem.lt M2_.1)
        clear c1_0_0 c1_0_1 c1_0_2 c1_0_3 c1_0_4 z1_0
        refine (hl _).mono ?_
        rintro e w2 ⟨rfl, hb2⟩
        have hB2 := below_then hB2_ hb2
        have hw2 := hw2_.below hb2
        have M2 := M2_.below hb2
        clear M2_ hB2_ hb2 hw2_
        have c2_0_0 := Mem.cell (v := .int .i64 6) M2.1 0 rfl
        have c2_0_1 := Mem.cell (v := .int .i64 0) M2.1 1 rfl
        have c2_0_2 := Mem.cell (v := .string m) M2.1 2 rfl
        have c2_0_3 := Mem.cell (v := .string s) M2.1 3 rfl
        have c2_0_4 := Mem.cell (v := .string i) M2.1 4 rfl
        have z2_0 := Mem.lt M2.1
        go_wp2_with fail
        go_ret
        exact ⟨rfl, hB2⟩
      · skip
        go_enter Tryz.func34, Tryz.ntmps34
        have hB0 := Below.refl w.heap.size w
        have M0 := Mem.nil w
        go_wp2_with fail
        refine Calls.named ?_
        intro W1 hW1
        have hB1_ : Below w.heap.size w W1 := by rw [hW1]; exact (below_al hB0 _)
        have hw1_ : LaidV W1 := by rw [hW1]; exact (hw.alloc _)
        have M1_ := (M0).new' (w.heap.size) (by rfl) (.cells #[.int .i64 7, .int .i64 0, .string m, .string s, .string i] 50)
        rw [← hW1] at M1_
        clear hW1
        have ZZ1_0 := Lib.hid (Mem.lt M1_.1)
        refine (hnm _ hw1_).mono ?_
        rintro e w1 ⟨rfl, hb1⟩
        have hB1 := below_then hB1_ hb1
        have hw1 := hw1_.below hb1
        have M1 := M1_.below hb1
        clear M1_ hB1_ hb1 hw1_
        have c1_0_0 := Mem.cell (v := .int .i64 7) M1.1 0 rfl
        have c1_0_1 := Mem.cell (v := .int .i64 0) M1.1 1 rfl
        have c1_0_2 := Mem.cell (v := .string m) M1.1 2 rfl
        have c1_0_3 := Mem.cell (v := .string s) M1.1 3 rfl
        have c1_0_4 := Mem.cell (v := .string i) M1.1 4 rfl
        have z1_0 := Mem.lt M1.1
        go_wp2_with fail
        refine Calls.named ?_
        intro W2 hW2
        have hB2_ : Below w.heap.size w W2 := by rw [hW2]; exact hB1
        have hw2_ : LaidV W2 := by rw [hW2]; exact hw1
        have M2_ := M1
        rw [← hW2] at M2_
        clear hW2
        have ZZ2_0 := Lib.hid (Mem.lt M2_.1)
        clear c1_0_0 c1_0_1 c1_0_2 c1_0_3 c1_0_4 z1_0
        refine (hl _).mono ?_
        rintro e w2 ⟨rfl, hb2⟩
        have hB2 := below_then hB2_ hb2
        have hw2 := hw2_.below hb2
        have M2 := M2_.below hb2
        clear M2_ hB2_ hb2 hw2_
        have c2_0_0 := Mem.cell (v := .int .i64 7) M2.1 0 rfl
        have c2_0_1 := Mem.cell (v := .int .i64 0) M2.1 1 rfl
        have c2_0_2 := Mem.cell (v := .string m) M2.1 2 rfl
        have c2_0_3 := Mem.cell (v := .string s) M2.1 3 rfl
        have c2_0_4 := Mem.cell (v := .string i) M2.1 4 rfl
        have z2_0 := Mem.lt M2.1
        go_wp2_with fail
        go_ret
        exact ⟨rfl, hB2⟩
theorem vright_any (k n : Int) (m s i : ByteArray) (hm : m.size ≤ 140737488351232) (hs : s.size ≤ 140737488351232) (hi : i.size ≤ 140737488351232) (w : World) (hw : LaidV w) :
    Calls Tryz.prog 34 #[.agg #[.int .i64 k, .int .i64 n, .string m, .string s, .string i]] w fun e w' => e = .returned (.bool (vl k n m s i).right) ∧ Below w.heap.size w w' := by
  by_cases h0 : k < 1 ∨ 7 < k
  · exact vright0 k n m s i w h0
  · by_cases h1 : k = 1
    · subst h1; exact vright1 n m s i w
    · by_cases h2 : k = 2
      · subst h2; exact vright2 n m s i hs hi w
      · exact vright3 k n m s i (by omega) hm hs hi w hw
end Go.Proofs.YtiggallcoocdaaaGreatDoor
