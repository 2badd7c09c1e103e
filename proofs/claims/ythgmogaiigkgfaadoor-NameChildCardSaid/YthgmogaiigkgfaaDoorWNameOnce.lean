/- What is a name is that of its parts; with a nought ahead, a dot at an end, or a letter it is none. The walk: the law answers true; no memory that was there is turned. Conditions: a string has at most 140737488351232 bytes, the listed package variables hold what the program's text lays. -/
import Derived.Test.YthgmogaiigkgfaaDoorNameLaws
namespace Go.Proofs.YthgmogaiigkgfaaDoor
open Go.RowKit
theorem wordNum_no {w : List UInt8} (h : ∀ n, 0 ≤ n ∧ n ≤ 999 → Lib.itoa n ≠ w) : wordNum w = none := by
  cases hw : wordNum w with
  | none => rfl
  | some n =>
    obtain ⟨h1, h2, h3⟩ := wordNum_some hw
    exact absurd h3 (h n ⟨h1, h2⟩)
theorem words_some {s : List UInt8} {l : List Int} (h : readL s = some l) : words s = l.map Lib.itoa := by
  obtain ⟨⟨h1, h2, h3⟩, rfl⟩ := readL_some h
  exact words_joinL l (by intro e; subst e; simp at h1) h3
theorem first_word {s : List UInt8} {l : List Int} (h : readL s = some l) : ∃ n t, (0 ≤ n ∧ n ≤ 999) ∧ words s = Lib.itoa n :: t := by
  have hw := words_some h
  obtain ⟨⟨h1, h2, h3⟩, _⟩ := readL_some h
  cases l with
  | nil => simp at h1
  | cons n l => exact ⟨n, _, h3 n (by simp), hw⟩
theorem bad_ahead {c : UInt8} {s : List UInt8} {l : List Int} (h : readL s = some l) (hc : c ≠ 46) (hd : ∀ n m, (0 ≤ n ∧ n ≤ 999) → (0 ≤ m ∧ m ≤ 999) → Lib.itoa m ≠ c :: Lib.itoa n) : readL (c :: s) = none := by
  obtain ⟨n, t, hn, hw⟩ := first_word h
  obtain ⟨a, u, h1, h2⟩ := words_cons hc s
  rw [hw] at h1
  simp only [List.cons.injEq] at h1
  refine readL_bad (w := c :: Lib.itoa n) ?_ (wordNum_no fun m hm => hd n m hn hm)
  rw [h2, ← h1.1]
  simp
theorem bad_nought {s : List UInt8} {l : List Int} (h : readL s = some l) : readL (48 :: s) = none := by
  refine bad_ahead h (by decide) fun n m hn hm e => ?_
  have k := (itoa_small_bytes hm).2.2.2
  rw [e] at k
  have := k rfl
  have k2 := (itoa_small_bytes hn).2.1
  simp at this
  rw [this] at k2
  simp at k2
theorem bad_minus {s : List UInt8} {l : List Int} (h : readL s = some l) : readL (45 :: s) = none := by
  refine bad_ahead h (by decide) fun n m hn hm e => ?_
  have k := (itoa_small_bytes hm).1
  rw [e] at k
  have := k 45 (by simp)
  simp at this
theorem bad_dot {s : List UInt8} : readL (46 :: s) = none := readL_bad (w := []) (by rw [words_dot]; simp) (by decide +kernel)
theorem bad_end {s : List UInt8} : readL (s ++ [46]) = none := readL_bad (w := []) (by rw [words_join]; simp [words]) (by decide +kernel)
theorem bad_behind {s : List UInt8} : readL (s ++ [46, 48, 49]) = none := by
  refine readL_bad (w := [48, 49]) ?_ (by decide +kernel)
  have : words (s ++ 46 :: [48, 49]) = words s ++ words [48, 49] := words_join s [48, 49]
  rw [this]
  simp [words]
theorem bad_letter {s : List UInt8} : readL (s ++ [97]) = none := by
  obtain ⟨f, x, h1, h2⟩ := words_snoc (c := 97) (by decide) s
  refine readL_bad (w := x ++ [97]) (by rw [h2]; simp) (wordNum_no fun m hm e => ?_)
  have k := (itoa_small_bytes hm).1
  rw [e] at k
  have := k 97 (by simp)
  simp at this
theorem some_no {s : List UInt8} (h : readL s = none) : (readL s).isSome = false := by rw [h]; rfl
theorem some_yes {s : List UInt8} {l : List Int} (h : readL s = some l) : (readL s).isSome = true := by rw [h]; rfl
set_option maxHeartbeats 1000000 in
theorem nonce_no (s : ByteArray) (hs : s.size ≤ 140737488351232) (w : World) (hw : Laid w) (h : readL s.data.toList = none) :
    Calls Tryd.prog 5 #[.string s] w fun e w' => e = .returned (.bool true) ∧ Below w.heap.size w w' := by
  have H := Lib.hid h
  have H2 := Lib.hid (some_no h)
  clear h
  go_enter Tryd.func5, Tryd.ntmps5
  have hB0 := Below.refl w.heap.size w
  have M0 := Mem.nil w
  go_wp2_with fail
  refine Calls.named ?_
  intro W1 hW1
  have hB1_ : Below w.heap.size w W1 := by rw [hW1]; exact hB0
  have hw1_ : Laid W1 := by rw [hW1]; exact hw
  have M1_ := Mem.nil W1
  clear hW1
  refine (nexamples_any _ hw1_).mono ?_
  rintro e w1 ⟨rfl, hb1⟩
  have hB1 := below_then hB1_ hb1
  have hw1 := hw1_.below hb1
  have M1 := M1_.below hb1
  clear M1_ hB1_ hb1 hw1_
  go_wp2_with fail
  refine Calls.named ?_
  intro W2 hW2
  have hB2_ : Below w.heap.size w W2 := by rw [hW2]; exact hB1
  have hw2_ : Laid W2 := by rw [hW2]; exact hw1
  have M2_ := Mem.nil W2
  clear hW2
  refine (parts_f H.out _ hs hw2_).mono ?_
  rintro e w2 ⟨rfl, hb2⟩
  have hB2 := below_then hB2_ hb2
  have hw2 := hw2_.below hb2
  have M2 := M2_.below hb2
  clear M2_ hB2_ hb2 hw2_
  go_wp2_with fail
  refine Calls.named ?_
  intro W3 hW3
  have hB3_ : Below w.heap.size w W3 := by rw [hW3]; exact hB2
  have hw3_ : Laid W3 := by rw [hW3]; exact hw2
  have M3_ := Mem.nil W3
  clear hW3
  refine (nright_t H2.out _ hs hw3_).mono ?_
  rintro e w3 ⟨rfl, hb3⟩
  have hB3 := below_then hB3_ hb3
  have hw3 := hw3_.below hb3
  have M3 := M3_.below hb3
  clear M3_ hB3_ hb3 hw3_
  go_wp2_with fail
  go_ret
  exact ⟨rfl, hB3⟩
theorem app_le {x y : ByteArray} {n : Nat} (h : x.size + y.size ≤ n) : (x ++ y).size ≤ n := by rw [ByteArray.size_append]; exact h
theorem app_list (x y : ByteArray) : (x ++ y).data.toList = x.data.toList ++ y.data.toList := by rw [ByteArray.data_append]; simp
set_option maxHeartbeats 1000000 in
theorem nonce_yes (s : ByteArray) (w : World) (hw : Laid w) (l : List Int) (h : readL s.data.toList = some l) :
    Calls Tryd.prog 5 #[.string s] w fun e w' => e = .returned (.bool true) ∧ Below w.heap.size w w' := by
  have H := Lib.hid h
  have H2 := Lib.hid (some_yes h)
  have hl : s.size ≤ 95 := by
    have := readL_length h
    rw [Array.length_toList] at this
    exact this
  have hf : ofL l = some (joinL l) := if_pos (readL_some h).1
  have HF := Lib.hid hf
  have e1 := str_beq (readL_some h).2
  have K1 : Hid ((readL (⟨#[48]⟩ ++ s).data.toList).isSome = false) := Lib.hid (some_no (by rw [app_list]; exact bad_nought h))
  have K2 : Hid ((readL (s ++ ⟨#[46]⟩).data.toList).isSome = false) := Lib.hid (some_no (by rw [app_list]; exact bad_end))
  have K3 : Hid ((readL (⟨#[46]⟩ ++ s).data.toList).isSome = false) := Lib.hid (some_no (by rw [app_list]; exact bad_dot))
  have K4 : Hid ((readL (s ++ ⟨#[97]⟩).data.toList).isSome = false) := Lib.hid (some_no (by rw [app_list]; exact bad_letter))
  have K5 : Hid ((readL (⟨#[45]⟩ ++ s).data.toList).isSome = false) := Lib.hid (some_no (by rw [app_list]; exact bad_minus h))
  have K6 : Hid ((readL (s ++ ⟨#[46, 48, 49]⟩).data.toList).isSome = false) := Lib.hid (some_no (by rw [app_list]; exact bad_behind))
  have hs : s.size ≤ 140737488351232 := by omega
  clear h hf
  go_enter Tryd.func5, Tryd.ntmps5
  have hB0 := Below.refl w.heap.size w
  have M0 := Mem.nil w
  go_wp2_with fail
  refine Calls.named ?_
  intro W1 hW1
  have hB1_ : Below w.heap.size w W1 := by rw [hW1]; exact hB0
  have hw1_ : Laid W1 := by rw [hW1]; exact hw
  have M1_ := Mem.nil W1
  clear hW1
  refine (nexamples_any _ hw1_).mono ?_
  rintro e w1 ⟨rfl, hb1⟩
  have hB1 := below_then hB1_ hb1
  have hw1 := hw1_.below hb1
  have M1 := M1_.below hb1
  clear M1_ hB1_ hb1 hw1_
  go_wp2_with fail
  refine Calls.named ?_
  intro W2 hW2
  have hB2_ : Below w.heap.size w W2 := by rw [hW2]; exact hB1
  have hw2_ : Laid W2 := by rw [hW2]; exact hw1
  have M2_ := Mem.nil W2
  clear hW2
  refine (parts_t H.out _ hs hw2_).mono ?_
  rintro e w2 ⟨g, cp, rfl, hb2, hrow⟩
  have hB2 := below_then hB2_ hb2
  have hw2 := hw2_.below hb2
  have M2 := M2_.below hb2
  clear M2_ hB2_ hb2 hw2_
  have il := IntsAt.of_row hrow
  clear hrow
  go_wp2_with fail
  refine Calls.named ?_
  intro W3 hW3
  have hB3_ : Below w.heap.size w W3 := by rw [hW3]; exact hB2
  have hw3_ : Laid W3 := by rw [hW3]; exact hw2
  have M3_ := Mem.nil W3
  have hS3 : Below w2.heap.size w2 W3 := by rw [hW3]; exact (Below.refl _ _)
  have il_ := IntsAt.below il hS3
  clear hS3 il
  clear hW3
  refine (nright_t H2.out _ hs hw3_).mono ?_
  rintro e w3 ⟨rfl, hb3⟩
  have il := IntsAt.below il_ hb3
  clear il_
  have hB3 := below_then hB3_ hb3
  have hw3 := hw3_.below hb3
  have M3 := M3_.below hb3
  clear M3_ hB3_ hb3 hw3_
  go_wp2_with fail
  refine Calls.named ?_
  intro W4 hW4
  have hB4_ : Below w.heap.size w W4 := by rw [hW4]; exact hB3
  have hw4_ : Laid W4 := by rw [hW4]; exact hw3
  have M4_ := Mem.nil W4
  have hS4 : Below w3.heap.size w3 W4 := by rw [hW4]; exact (Below.refl _ _)
  have il_ := IntsAt.below il hS4
  clear hS4 il
  clear hW4
  refine (of_t HF.out _ il_ hw4_).mono ?_
  rintro e w4 ⟨rfl, hb4⟩
  have il := IntsAt.below il_ hb4
  clear il_
  have hB4 := below_then hB4_ hb4
  have hw4 := hw4_.below hb4
  have M4 := M4_.below hb4
  clear M4_ hB4_ hb4 hw4_
  clear il
  go_wp2_with fail
  refine Calls.named ?_
  intro W5 hW5
  have hB5_ : Below w.heap.size w W5 := by rw [hW5]; exact hB4
  have hw5_ : Laid W5 := by rw [hW5]; exact hw4
  have M5_ := Mem.nil W5
  clear hW5
  refine (nright_t K1.out _ (app_le (by show 1 + s.size ≤ _; omega)) hw5_).mono ?_
  rintro e w5 ⟨rfl, hb5⟩
  have hB5 := below_then hB5_ hb5
  have hw5 := hw5_.below hb5
  have M5 := M5_.below hb5
  clear M5_ hB5_ hb5 hw5_
  go_wp2_with fail
  refine Calls.named ?_
  intro W6 hW6
  have hB6_ : Below w.heap.size w W6 := by rw [hW6]; exact hB5
  have hw6_ : Laid W6 := by rw [hW6]; exact hw5
  have M6_ := Mem.nil W6
  clear hW6
  refine (nright_t K2.out _ (app_le (by show s.size + 1 ≤ _; omega)) hw6_).mono ?_
  rintro e w6 ⟨rfl, hb6⟩
  have hB6 := below_then hB6_ hb6
  have hw6 := hw6_.below hb6
  have M6 := M6_.below hb6
  clear M6_ hB6_ hb6 hw6_
  go_wp2_with fail
  refine Calls.named ?_
  intro W7 hW7
  have hB7_ : Below w.heap.size w W7 := by rw [hW7]; exact hB6
  have hw7_ : Laid W7 := by rw [hW7]; exact hw6
  have M7_ := Mem.nil W7
  clear hW7
  refine (nright_t K3.out _ (app_le (by show 1 + s.size ≤ _; omega)) hw7_).mono ?_
  rintro e w7 ⟨rfl, hb7⟩
  have hB7 := below_then hB7_ hb7
  have hw7 := hw7_.below hb7
  have M7 := M7_.below hb7
  clear M7_ hB7_ hb7 hw7_
  go_wp2_with fail
  refine Calls.named ?_
  intro W8 hW8
  have hB8_ : Below w.heap.size w W8 := by rw [hW8]; exact hB7
  have hw8_ : Laid W8 := by rw [hW8]; exact hw7
  have M8_ := Mem.nil W8
  clear hW8
  refine (nright_t K4.out _ (app_le (by show s.size + 1 ≤ _; omega)) hw8_).mono ?_
  rintro e w8 ⟨rfl, hb8⟩
  have hB8 := below_then hB8_ hb8
  have hw8 := hw8_.below hb8
  have M8 := M8_.below hb8
  clear M8_ hB8_ hb8 hw8_
  go_wp2_with fail
  refine Calls.named ?_
  intro W9 hW9
  have hB9_ : Below w.heap.size w W9 := by rw [hW9]; exact hB8
  have hw9_ : Laid W9 := by rw [hW9]; exact hw8
  have M9_ := Mem.nil W9
  clear hW9
  refine (nright_t K5.out _ (app_le (by show 1 + s.size ≤ _; omega)) hw9_).mono ?_
  rintro e w9 ⟨rfl, hb9⟩
  have hB9 := below_then hB9_ hb9
  have hw9 := hw9_.below hb9
  have M9 := M9_.below hb9
  clear M9_ hB9_ hb9 hw9_
  go_wp2_with fail
  refine Calls.named ?_
  intro W10 hW10
  have hB10_ : Below w.heap.size w W10 := by rw [hW10]; exact hB9
  have hw10_ : Laid W10 := by rw [hW10]; exact hw9
  have M10_ := Mem.nil W10
  clear hW10
  refine (nright_t K6.out _ (app_le (by show s.size + 3 ≤ _; omega)) hw10_).mono ?_
  rintro e w10 ⟨rfl, hb10⟩
  have hB10 := below_then hB10_ hb10
  have hw10 := hw10_.below hb10
  have M10 := M10_.below hb10
  clear M10_ hB10_ hb10 hw10_
  go_wp2_with fail
  go_ret
  exact ⟨rfl, hB10⟩
theorem nameOnce_walk (s : ByteArray) (hs : s.size ≤ 140737488351232) (w : World) (hw : Laid w) :
    Calls Tryd.prog 5 #[.string s] w fun e w' => e = .returned (.bool true) ∧ Below w.heap.size w w' := by
  cases h : readL s.data.toList with
  | none => exact nonce_no s hs w hw h
  | some l => exact nonce_yes s w hw l h
end Go.Proofs.YthgmogaiigkgfaaDoor
