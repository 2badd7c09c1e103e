/- What the statements of chapter 6 share: contracts by their answers; the chapter's examples. -/
import Derived.Test.YthgmogaiigkgfaaDoorNameTwo
namespace Go.Proofs.YthgmogaiigkgfaaDoor
open Go.RowKit
theorem child_t {s : ByteArray} {n : Int} {r : List UInt8} (hf : childS s.data.toList n = some r) (w : World) (hs : s.size ≤ 140737488351232) (hw : Laid w) :
    Calls Tryd.prog 12 #[.string s, .int .i64 n] w fun e w' => e = .returned (.tuple #[.string ⟨r.toArray⟩, .bool true]) ∧ Below w.heap.size w w' := by
  have h := child_any s n w hs hw
  rw [hf] at h
  exact h
theorem child_f {s : ByteArray} {n : Int} (hf : childS s.data.toList n = none) (w : World) (hs : s.size ≤ 140737488351232) (hw : Laid w) :
    Calls Tryd.prog 12 #[.string s, .int .i64 n] w fun e w' => e = .returned (.tuple #[.string ⟨#[]⟩, .bool false]) ∧ Below w.heap.size w w' := by
  have h := child_any s n w hs hw
  rw [hf] at h
  exact h
theorem of_t {v : Value} {l : List Int} {r : List UInt8} (hf : ofL l = some r) (w : World) (hi : IntsAt w v l) (hw : Laid w) :
    Calls Tryd.prog 10 #[v] w fun e w' => e = .returned (.tuple #[.string ⟨r.toArray⟩, .bool true]) ∧ Below w.heap.size w w' := by
  have h := of_any v l w hi hw
  unfold MadeEnds at h
  rw [hf] at h
  exact h
theorem of_f {v : Value} {l : List Int} (hf : ofL l = none) (w : World) (hi : IntsAt w v l) (hw : Laid w) :
    Calls Tryd.prog 10 #[v] w fun e w' => e = .returned (.tuple #[.string ⟨#[]⟩, .bool false]) ∧ Below w.heap.size w w' := by
  have h := of_any v l w hi hw
  unfold MadeEnds at h
  rw [hf] at h
  exact h
theorem parts_t {s : ByteArray} {l : List Int} (hf : readL s.data.toList = some l) (w : World) (hs : s.size ≤ 140737488351232) (hw : Laid w) :
    Calls Tryd.prog 14 #[.string s] w fun e w' => ∃ g cap, e = .returned (.slice (some ⟨g, 0, none⟩) l.length cap) ∧ Below w.heap.size w w' ∧ w'.ownsRow w.heap.size 3 1 (.slice (some ⟨g, 0, none⟩) l.length cap) l.length (ic l) := by
  refine (parts_any s w hs hw).mono ?_
  rw [hf]
  rintro e w' ⟨v, rfl, hrow, hb, -⟩
  have hr : w'.ownsRow w.heap.size 3 1 v l.length (ic l) := hrow
  obtain ⟨g, cap, rfl, _⟩ := ownsRow_ints hr (readL_some hf).1.1
  exact ⟨g, cap, rfl, hb, hr⟩
theorem parts_f {s : ByteArray} (hf : readL s.data.toList = none) (w : World) (hs : s.size ≤ 140737488351232) (hw : Laid w) :
    Calls Tryd.prog 14 #[.string s] w fun e w' => e = .returned (.slice none 0 0) ∧ Below w.heap.size w w' := by
  refine (parts_any s w hs hw).mono ?_
  rw [hf]
  rintro e w' ⟨v, rfl, hrow, hb, hnil⟩
  rw [hnil rfl]
  exact ⟨rfl, hb⟩
theorem nright_t {s : ByteArray} {b : Bool} (hf : (readL s.data.toList).isSome = b) (w : World) (hs : s.size ≤ 140737488351232) (hw : Laid w) :
    Calls Tryd.prog 18 #[.string s] w fun e w' => e = .returned (.bool b) ∧ Below w.heap.size w w' := by
  have h := nright_any s w hs hw
  rw [hf] at h
  exact h
theorem under_t {a b : ByteArray} {r : Bool} (hf : underS a.data.toList b.data.toList = r) (w : World) (ha : a.size ≤ 140737488351232) (hb : b.size ≤ 140737488351232) (hw : Laid w) :
    Calls Tryd.prog 20 #[.string a, .string b] w fun e w' => e = .returned (.bool r) ∧ Below w.heap.size w w' := by
  have h := under_any a b w ha hb hw
  rw [hf] at h
  exact h
theorem order_t {a b : ByteArray} {r : Int} (hf : orderS a.data.toList b.data.toList = r) (w : World) (ha : a.size ≤ 140737488351232) (hb : b.size ≤ 140737488351232) (hw : Laid w) :
    Calls Tryd.prog 16 #[.string a, .string b] w fun e w' => e = .returned (.int .i64 r) ∧ Below w.heap.size w w' := by
  have h := order_any a b w ha hb hw
  rw [hf] at h
  exact h
theorem IntsAt.box2 {W : World} {b : Nat} {x y : Int} {T : TypeId} (h : W.heap[b]? = some (.cells #[.int .i64 x, .int .i64 y] T)) : IntsAt W (.slice (some ⟨b, 0, none⟩) 2 2) [x, y] := by
  refine Or.inr ⟨b, 0, 2, rfl, by simp, by unfold maxLen; simp, fun j hj => ?_⟩
  match j, hj with
  | 0, _ => exact Mem.cell h 0 rfl
  | 1, _ => exact Mem.cell h 1 rfl
theorem nx1 : childS (⟨#[48, 46, 51]⟩ : ByteArray).data.toList 12 = some [48, 46, 51, 46, 49, 50] := by decide +kernel
theorem nx2 : childS (⟨#[48, 46, 51]⟩ : ByteArray).data.toList 1000 = none := by decide +kernel
theorem nx3 : ofL [2, 0] = some [50, 46, 48] := by decide +kernel
theorem nx4 : readL (⟨#[50, 46, 48]⟩ : ByteArray).data.toList = some [2, 0] := by decide +kernel
theorem nx5 : (readL (⟨#[48]⟩ : ByteArray).data.toList).isSome = true := by decide +kernel
theorem nx6 : (readL (⟨#[48, 48]⟩ : ByteArray).data.toList).isSome = false := by decide +kernel
theorem nx7 : underS (⟨#[48, 46, 51]⟩ : ByteArray).data.toList (⟨#[48, 46, 51, 46, 49, 50]⟩ : ByteArray).data.toList = true := by decide +kernel
theorem nx8 : underS (⟨#[48, 46, 51]⟩ : ByteArray).data.toList (⟨#[48, 46, 51, 49]⟩ : ByteArray).data.toList = false := by decide +kernel
theorem nx9 : orderS (⟨#[48, 46, 57]⟩ : ByteArray).data.toList (⟨#[48, 46, 49, 48]⟩ : ByteArray).data.toList = -1 := by decide +kernel
theorem nx10 : orderS (⟨#[48]⟩ : ByteArray).data.toList (⟨#[48, 46, 48]⟩ : ByteArray).data.toList = -1 := by decide +kernel
theorem nx11 : orderS (⟨#[120]⟩ : ByteArray).data.toList (⟨#[57]⟩ : ByteArray).data.toList = 1 := by decide +kernel
set_option maxHeartbeats 1000000 in
theorem nexamples_any (w : World) (hw : Laid w) : Calls Tryd.prog 9 #[] w fun e w' => e = .returned (.bool true) ∧ Below w.heap.size w w' := by
  go_enter Tryd.func9, Tryd.ntmps9
  have hB0 := Below.refl w.heap.size w
  have M0 := Mem.nil w
  go_wp2_with fail
  refine Calls.named ?_
  intro W1 hW1
  have hB1_ : Below w.heap.size w W1 := by rw [hW1]; exact hB0
  have hw1_ : Laid W1 := by rw [hW1]; exact hw
  have M1_ := Mem.nil W1
  clear hW1
  refine (child_t nx1 _ (by decide) hw1_).mono ?_
  rintro e w1 ⟨rfl, hb1⟩
  have hB1 := below_then hB1_ hb1
  have hw1 := hw1_.below hb1
  have M1 := M1_.below hb1
  clear M1_ hB1_ hb1 hw1_
  go_wp2_with fail
  refine Calls.named ?_
  intro W2 hW2
  have hB2_ : Below w.heap.size w W2 := by rw [hW2]; exact hB1
  have hw2_ : Laid W2 := by rw [hW2]; exact hw1
  have M2_ := Mem.nil W2
  clear hW2
  refine (child_f nx2 _ (by decide) hw2_).mono ?_
  rintro e w2 ⟨rfl, hb2⟩
  have hB2 := below_then hB2_ hb2
  have hw2 := hw2_.below hb2
  have M2 := M2_.below hb2
  clear M2_ hB2_ hb2 hw2_
  go_wp2_with fail
  refine Calls.named ?_
  intro W3 hW3
  have hB3_ : Below w.heap.size w W3 := by rw [hW3]; exact (below_al hB2 _)
  have hw3_ : Laid W3 := by rw [hW3]; exact (hw2.alloc _)
  have M3_ := (M2).new' (w2.heap.size) (by rfl) (.cells #[.int .i64 2, .int .i64 0] 3)
  rw [← hW3] at M3_
  clear hW3
  refine (of_t nx3 _ (IntsAt.box2 M3_.1) hw3_).mono ?_
  rintro e w3 ⟨rfl, hb3⟩
  have hB3 := below_then hB3_ hb3
  have hw3 := hw3_.below hb3
  have M3 := M3_.below hb3
  clear M3_ hB3_ hb3 hw3_
  have c3_0_0 := Mem.cell (v := .int .i64 2) M3.1 0 rfl
  have c3_0_1 := Mem.cell (v := .int .i64 0) M3.1 1 rfl
  have z3_0 := Mem.lt M3.1
  go_wp2_with fail
  refine Calls.named ?_
  intro W4 hW4
  have hB4_ : Below w.heap.size w W4 := by rw [hW4]; exact hB3
  have hw4_ : Laid W4 := by rw [hW4]; exact hw3
  have M4_ := M3
  rw [← hW4] at M4_
  clear hW4
  clear c3_0_0 c3_0_1 z3_0
  refine (parts_t nx4 _ (by decide) hw4_).mono ?_
  rintro e w4 ⟨g, cap, rfl, hb4, hrow⟩
  have hB4 := below_then hB4_ hb4
  have hw4 := hw4_.below hb4
  have M4 := M4_.below hb4
  clear M4_ hB4_ hb4 hw4_
  have c4_0_0 := Mem.cell (v := .int .i64 2) M4.1 0 rfl
  have c4_0_1 := Mem.cell (v := .int .i64 0) M4.1 1 rfl
  have z4_0 := Mem.lt M4.1
  obtain ⟨g', cap', hv, -, -, hc⟩ := ownsRow_ints hrow (by simp)
  simp only [Value.slice.injEq, Option.some.injEq, Addr.mk.injEq, true_and, and_true] at hv
  obtain ⟨rfl, -⟩ := hv
  have e0 := hc 0 (by simp)
  have e1 := hc 1 (by simp)
  clear hc hrow
  go_wp2_with fail
  refine Calls.named ?_
  intro W5 hW5
  have hB5_ : Below w.heap.size w W5 := by rw [hW5]; exact hB4
  have hw5_ : Laid W5 := by rw [hW5]; exact hw4
  have M5_ := M4
  rw [← hW5] at M5_
  clear hW5
  clear c4_0_0 c4_0_1 z4_0
  refine (nright_t nx5 _ (by decide) hw5_).mono ?_
  rintro e w5 ⟨rfl, hb5⟩
  have hB5 := below_then hB5_ hb5
  have hw5 := hw5_.below hb5
  have M5 := M5_.below hb5
  clear M5_ hB5_ hb5 hw5_
  have c5_0_0 := Mem.cell (v := .int .i64 2) M5.1 0 rfl
  have c5_0_1 := Mem.cell (v := .int .i64 0) M5.1 1 rfl
  have z5_0 := Mem.lt M5.1
  clear e0 e1
  go_wp2_with fail
  refine Calls.named ?_
  intro W6 hW6
  have hB6_ : Below w.heap.size w W6 := by rw [hW6]; exact hB5
  have hw6_ : Laid W6 := by rw [hW6]; exact hw5
  have M6_ := M5
  rw [← hW6] at M6_
  clear hW6
  clear c5_0_0 c5_0_1 z5_0
  refine (nright_t nx6 _ (by decide) hw6_).mono ?_
  rintro e w6 ⟨rfl, hb6⟩
  have hB6 := below_then hB6_ hb6
  have hw6 := hw6_.below hb6
  have M6 := M6_.below hb6
  clear M6_ hB6_ hb6 hw6_
  have c6_0_0 := Mem.cell (v := .int .i64 2) M6.1 0 rfl
  have c6_0_1 := Mem.cell (v := .int .i64 0) M6.1 1 rfl
  have z6_0 := Mem.lt M6.1
  go_wp2_with fail
  refine Calls.named ?_
  intro W7 hW7
  have hB7_ : Below w.heap.size w W7 := by rw [hW7]; exact hB6
  have hw7_ : Laid W7 := by rw [hW7]; exact hw6
  have M7_ := M6
  rw [← hW7] at M7_
  clear hW7
  clear c6_0_0 c6_0_1 z6_0
  refine (under_t nx7 _ (by decide) (by decide) hw7_).mono ?_
  rintro e w7 ⟨rfl, hb7⟩
  have hB7 := below_then hB7_ hb7
  have hw7 := hw7_.below hb7
  have M7 := M7_.below hb7
  clear M7_ hB7_ hb7 hw7_
  have c7_0_0 := Mem.cell (v := .int .i64 2) M7.1 0 rfl
  have c7_0_1 := Mem.cell (v := .int .i64 0) M7.1 1 rfl
  have z7_0 := Mem.lt M7.1
  go_wp2_with fail
  refine Calls.named ?_
  intro W8 hW8
  have hB8_ : Below w.heap.size w W8 := by rw [hW8]; exact hB7
  have hw8_ : Laid W8 := by rw [hW8]; exact hw7
  have M8_ := M7
  rw [← hW8] at M8_
  clear hW8
  clear c7_0_0 c7_0_1 z7_0
  refine (under_t nx8 _ (by decide) (by decide) hw8_).mono ?_
  rintro e w8 ⟨rfl, hb8⟩
  have hB8 := below_then hB8_ hb8
  have hw8 := hw8_.below hb8
  have M8 := M8_.below hb8
  clear M8_ hB8_ hb8 hw8_
  have c8_0_0 := Mem.cell (v := .int .i64 2) M8.1 0 rfl
  have c8_0_1 := Mem.cell (v := .int .i64 0) M8.1 1 rfl
  have z8_0 := Mem.lt M8.1
  go_wp2_with fail
  refine Calls.named ?_
  intro W9 hW9
  have hB9_ : Below w.heap.size w W9 := by rw [hW9]; exact hB8
  have hw9_ : Laid W9 := by rw [hW9]; exact hw8
  have M9_ := M8
  rw [← hW9] at M9_
  clear hW9
  clear c8_0_0 c8_0_1 z8_0
  refine (order_t nx9 _ (by decide) (by decide) hw9_).mono ?_
  rintro e w9 ⟨rfl, hb9⟩
  have hB9 := below_then hB9_ hb9
  have hw9 := hw9_.below hb9
  have M9 := M9_.below hb9
  clear M9_ hB9_ hb9 hw9_
  have c9_0_0 := Mem.cell (v := .int .i64 2) M9.1 0 rfl
  have c9_0_1 := Mem.cell (v := .int .i64 0) M9.1 1 rfl
  have z9_0 := Mem.lt M9.1
  go_wp2_with fail
  refine Calls.named ?_
  intro W10 hW10
  have hB10_ : Below w.heap.size w W10 := by rw [hW10]; exact hB9
  have hw10_ : Laid W10 := by rw [hW10]; exact hw9
  have M10_ := M9
  rw [← hW10] at M10_
  clear hW10
  clear c9_0_0 c9_0_1 z9_0
  refine (order_t nx10 _ (by decide) (by decide) hw10_).mono ?_
  rintro e w10 ⟨rfl, hb10⟩
  have hB10 := below_then hB10_ hb10
  have hw10 := hw10_.below hb10
  have M10 := M10_.below hb10
  clear M10_ hB10_ hb10 hw10_
  have c10_0_0 := Mem.cell (v := .int .i64 2) M10.1 0 rfl
  have c10_0_1 := Mem.cell (v := .int .i64 0) M10.1 1 rfl
  have z10_0 := Mem.lt M10.1
  go_wp2_with fail
  refine Calls.named ?_
  intro W11 hW11
  have hB11_ : Below w.heap.size w W11 := by rw [hW11]; exact hB10
  have hw11_ : Laid W11 := by rw [hW11]; exact hw10
  have M11_ := M10
  rw [← hW11] at M11_
  clear hW11
  clear c10_0_0 c10_0_1 z10_0
  refine (order_t nx11 _ (by decide) (by decide) hw11_).mono ?_
  rintro e w11 ⟨rfl, hb11⟩
  have hB11 := below_then hB11_ hb11
  have hw11 := hw11_.below hb11
  have M11 := M11_.below hb11
  clear M11_ hB11_ hb11 hw11_
  have c11_0_0 := Mem.cell (v := .int .i64 2) M11.1 0 rfl
  have c11_0_1 := Mem.cell (v := .int .i64 0) M11.1 1 rfl
  have z11_0 := Mem.lt M11.1
  go_wp2_with fail
  go_ret
  exact ⟨rfl, hB11⟩
end Go.Proofs.YthgmogaiigkgfaaDoor
