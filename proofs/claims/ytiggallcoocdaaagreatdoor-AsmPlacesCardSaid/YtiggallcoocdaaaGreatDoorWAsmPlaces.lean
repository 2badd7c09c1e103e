/- The line that is told is one that there is; all ahead of it are as they may be, whatever stands behind; with it gone the error is another one's. The walk: the law answers true; no memory that was there is turned. Conditions: the listed package variables hold what the program's text lays; every other argument of the parameter types. -/
import Derived.Test.YtiggallcoocdaaaGreatDoorZD
namespace Go.Proofs.YtiggallcoocdaaaGreatDoor
open Go.RowKit
set_option maxRecDepth 100000 in
set_option maxHeartbeats 8000000 in
theorem asmPlaces_walk (v : Value) (l : List UInt8) (v2 : Value) (l2 : List UInt8) (w : World) (hL : BsAt w v l) (hM : BsAt w v2 l2) (hw : LaidI w) :
    Calls Tryz.prog 3 #[v, v2] w fun e w' => e = .returned (.bool true) ∧ Below w.heap.size w w' := by
  obtain ⟨ao, cap, rfl⟩ := hL.form
  obtain ⟨n, hn⟩ : ∃ n, n = l.length := ⟨_, rfl⟩
  rw [← hn] at hL ⊢
  obtain ⟨m, hm⟩ : ∃ m, m = min n 40 := ⟨_, rfl⟩
  have hsl0 := slice_h hL (k := m) (by omega) (min (n : Int) 40) (by omega)
  have hL1 := hL.cut (k := m) (by omega)
  obtain ⟨L, hLL⟩ : ∃ L, L = l.take m := ⟨_, rfl⟩
  have hl40 : L.length ≤ 40 := by rw [hLL, List.length_take]; omega
  have hlm : L.length = m := by rw [hLL, List.length_take]; omega
  rw [← hLL] at hL1
  have hm40 : m ≤ 40 := by omega
  obtain ⟨P, hP⟩ : ∃ P : ByteArray, P = ⟨(linesB L).toArray⟩ := ⟨_, rfl⟩
  have hPs : P.size ≤ 500000000 := by
    have := linesB_length L
    rw [hP, b_size]
    omega
  have hPd : P.data.toList = linesB L := by rw [hP]
  have HM := Lib.hid hM
  have HL1 := Lib.hid hL1
  have HP := Lib.hid hP
  have HPS := Lib.hid hPs
  have H40 := Lib.hid hl40
  have HLM := Lib.hid hlm
  by_cases h4 : (parseA (linesB L)).2.2 = 4
  · obtain ⟨k, k1, k2, k3, k4, k5⟩ := places_ahead hl40 h4
    obtain ⟨q, hq⟩ : ∃ q, q = k + 1 := ⟨_, rfl⟩
    have hpa : parseA P.data.toList = (im0, q, 4) := by rw [hPd, k1, hq]
    have hq1 : q ≤ m := by omega
    have hsl1 := slice_h hL1 (k := k) (by omega) (IntKind.i64.wrap ((q : Int) - 1)) (by rw [IntWalk.i64_in _ (by omega)]; omega)
    have hsl1' := slice_h hL1 (k := k) (by omega) (k : Int) rfl
    have hsl2 := slice_h hL1 (k := q) (by omega) (q : Int) rfl
    have hLA := hL1.cut (k := k) (by omega)
    have hLB := hL1.cut (k := q) (by omega)
    have e1 : IntKind.i64.wrap ((q : Int) - 1) = (k : Int) := by rw [IntWalk.i64_in _ (by omega)]; omega
    obtain ⟨A, hA⟩ : ∃ A : ByteArray, A = ⟨(linesB (L.take k)).toArray⟩ := ⟨_, rfl⟩
    obtain ⟨B, hB⟩ : ∃ B : ByteArray, B = ⟨(linesB (L.take q)).toArray⟩ := ⟨_, rfl⟩
    obtain ⟨C, hC⟩ : ∃ C : ByteArray, C = ⟨(linesB l2).toArray⟩ := ⟨_, rfl⟩
    have hAs : A.size ≤ 500000000 := by
      have := linesB_length (L.take k)
      rw [hA, b_size]
      omega
    have hBs : B.size ≤ 1200 := by rw [hB, b_size]; exact linesB_length _
    have hCs : C.size ≤ 1200 := by rw [hC, b_size]; exact linesB_length _
    have hD : (B ++ ⟨#[10]⟩ ++ C).data.toList = linesB (L.take q) ++ 10 :: linesB l2 := by rw [hB, hC]; simp [ByteArray.data_append]
    have hDs : (B ++ ⟨#[10]⟩ ++ C).size ≤ 500000000 := by
      rw [ByteArray.size_append, ByteArray.size_append, show (⟨#[10]⟩ : ByteArray).size = 1 from rfl]
      omega
    obtain ⟨imx, hx1⟩ : ∃ imx, imx = (parseA (linesB (L.take k))).1 := ⟨_, rfl⟩
    obtain ⟨E, hx2⟩ : ∃ E, E = (parseA (linesB (L.take k))).2.2 := ⟨_, rfl⟩
    have hpA : parseA A.data.toList = (imx, 0, E) := by
      rw [hA, hx1, hx2, ← k4]
    have hpD : parseA (B ++ ⟨#[10]⟩ ++ C).data.toList = (im0, q, 4) := by
      rw [hD, hq]
      exact k5 _
    rw [← hx2] at k3
    have z1 : (E == 4) = false := by simpa using k3
    have z2 : (E != 4) = true := by simpa using k3
    have g1 : ¬ (q : Int) < 1 := by omega
    have g2 : ¬ max (m : Int) 1 < (q : Int) := by omega
    have hq5 : ¬ 9223372036854775807 < B.size + 1 := by omega
    have hq6 : ¬ 9223372036854775807 < B.size + 1 + C.size := by omega
    have HPA := Lib.hid hpa
    have HLA := Lib.hid hLA
    have HLB := Lib.hid hLB
    have HA := Lib.hid hA
    have HB' := Lib.hid hB
    have HC := Lib.hid hC
    have HAS := Lib.hid hAs
    have HDS := Lib.hid hDs
    have HPA2 := Lib.hid hpA
    have HPD := Lib.hid hpD
    clear hL hM hn hm hLL hlm hL1 hP hPs hPd hl40 h4 k1 k2 k4 k5 hq hpa hLA hLB hA hB hC hAs hBs hCs hD hDs hx1 hx2 hpA hpD
    go_enter Tryz.func3, Tryz.ntmps3
    have hB0 := Below.refl w.heap.size w
    have M0 := Mem.nil w
    have hw0 := hw
    go_wp2_with fail
    refine Calls.named ?_
    intro W1 hW1
    have hB1_ : Below w.heap.size w W1 := by rw [hW1]; exact hB0
    have hw1_ : LaidI W1 := by rw [hW1]; exact hw
    have M1_ := Mem.nil W1
    clear hW1
    refine (aex_any _ hw1_).mono ?_
    rintro e w1 ⟨rfl, hb1⟩
    have hB1 := below_then hB1_ hb1
    have hw1 := hw1_.below hb1
    have M1 := M1_.below hb1
    clear M1_ hB1_ hb1 hw1_
    go_wp2_with fail
    refine Calls.named ?_
    intro W2 hW2
    have hB2_ : Below w.heap.size w W2 := by rw [hW2]; exact hB1
    have hw2_ : LaidI W2 := by rw [hW2]; exact hw1
    have M2_ := Mem.nil W2
    clear hW2
    refine (lines_c _ L _ (HL1.out.below hB2_) P HP.out).mono ?_
    rintro e w2 ⟨rfl, hb2⟩
    have hB2 := below_then hB2_ hb2
    have hw2 := hw2_.below hb2
    have M2 := M2_.below hb2
    clear M2_ hB2_ hb2 hw2_
    go_wp2_with fail
    refine Calls.named ?_
    intro W3 hW3
    have hB3_ : Below w.heap.size w W3 := by rw [hW3]; exact hB2
    have hw3_ : LaidI W3 := by rw [hW3]; exact hw2
    have M3_ := Mem.nil W3
    clear hW3
    refine (parse_im P _ HPS.out hw3_ im0 q 4 HPA.out 0 0 rfl rfl).mono ?_
    rintro e w3 ⟨c1, d1, c2, d2, rfl, -, hb3⟩
    have hB3 := below_then hB3_ hb3
    have hw3 := hw3_.below hb3
    have M3 := M3_.below hb3
    clear M3_ hB3_ hb3 hw3_
    go_wp2_with fail
    refine Calls.named ?_
    intro W4 hW4
    have hB4_ : Below w.heap.size w W4 := by rw [hW4]; exact (below_al hB3 _)
    have hw4_ : LaidI W4 := by rw [hW4]; exact (hw3.alloc _)
    have M4_ := (M3).new' (w3.heap.size) (by rfl) (.cells #[.slice c1 0 d1, .slice c2 0 d2] 27)
    rw [← hW4] at M4_
    clear hW4
    have ZZ4_0 := Lib.hid (Mem.lt M4_.1)
    refine (lines_c _ _ _ (HLA.out.below hB4_) A HA.out).mono ?_
    rintro e w4 ⟨rfl, hb4⟩
    have hB4 := below_then hB4_ hb4
    have hw4 := hw4_.below hb4
    have M4 := M4_.below hb4
    clear M4_ hB4_ hb4 hw4_
    have c4_0_0 := Mem.cell (v := .slice c1 0 d1) M4.1 0 rfl
    have c4_0_1 := Mem.cell (v := .slice c2 0 d2) M4.1 1 rfl
    have z4_0 := Mem.lt M4.1
    go_wp2_with fail
    refine Calls.named ?_
    intro W5 hW5
    have hB5_ : Below w.heap.size w W5 := by rw [hW5]; exact hB4
    have hw5_ : LaidI W5 := by rw [hW5]; exact hw4
    have M5_ := M4
    rw [← hW5] at M5_
    clear hW5
    have ZZ5_0 := Lib.hid (Mem.lt M5_.1)
    clear c4_0_0 c4_0_1 z4_0
    refine (parse_im A _ HAS.out hw5_ imx 0 E HPA2.out _ _ rfl rfl).mono ?_
    rintro e w5 ⟨c3, d3, c4, d4, rfl, -, hb5⟩
    have hB5 := below_then hB5_ hb5
    have hw5 := hw5_.below hb5
    have M5 := M5_.below hb5
    clear M5_ hB5_ hb5 hw5_
    have c5_0_0 := Mem.cell (v := .slice c1 0 d1) M5.1 0 rfl
    have c5_0_1 := Mem.cell (v := .slice c2 0 d2) M5.1 1 rfl
    have z5_0 := Mem.lt M5.1
    go_wp2_with fail
    refine Calls.named ?_
    intro W6 hW6
    have hB6_ : Below w.heap.size w W6 := by rw [hW6]; exact (below_al hB5 _)
    have hw6_ : LaidI W6 := by rw [hW6]; exact (hw5.alloc _)
    have M6_ := (M5).new' (w5.heap.size) (by rfl) (.cells #[.slice c3 imx.cs.length d3, .slice c4 imx.fs.length d4] 27)
    rw [← hW6] at M6_
    clear hW6
    have ZZ6_0 := Lib.hid (Mem.lt M6_.1)
    have ZZ6_1 := Lib.hid (Mem.lt M6_.2.1)
    clear c5_0_0 c5_0_1 z5_0
    refine (lines_c _ _ _ (HLB.out.below hB6_) B HB'.out).mono ?_
    rintro e w6 ⟨rfl, hb6⟩
    have hB6 := below_then hB6_ hb6
    have hw6 := hw6_.below hb6
    have M6 := M6_.below hb6
    clear M6_ hB6_ hb6 hw6_
    have c6_0_0 := Mem.cell (v := .slice c3 imx.cs.length d3) M6.1 0 rfl
    have c6_0_1 := Mem.cell (v := .slice c4 imx.fs.length d4) M6.1 1 rfl
    have z6_0 := Mem.lt M6.1
    have c6_1_0 := Mem.cell (v := .slice c1 0 d1) M6.2.1 0 rfl
    have c6_1_1 := Mem.cell (v := .slice c2 0 d2) M6.2.1 1 rfl
    have z6_1 := Mem.lt M6.2.1
    go_wp2_with fail
    refine Calls.named ?_
    intro W7 hW7
    have hB7_ : Below w.heap.size w W7 := by rw [hW7]; exact hB6
    have hw7_ : LaidI W7 := by rw [hW7]; exact hw6
    have M7_ := M6
    rw [← hW7] at M7_
    clear hW7
    have ZZ7_0 := Lib.hid (Mem.lt M7_.1)
    have ZZ7_1 := Lib.hid (Mem.lt M7_.2.1)
    clear c6_0_0 c6_0_1 z6_0 c6_1_0 c6_1_1 z6_1
    refine (lines_c _ _ _ (HM.out.below hB7_) C HC.out).mono ?_
    rintro e w7 ⟨rfl, hb7⟩
    have hB7 := below_then hB7_ hb7
    have hw7 := hw7_.below hb7
    have M7 := M7_.below hb7
    clear M7_ hB7_ hb7 hw7_
    have c7_0_0 := Mem.cell (v := .slice c3 imx.cs.length d3) M7.1 0 rfl
    have c7_0_1 := Mem.cell (v := .slice c4 imx.fs.length d4) M7.1 1 rfl
    have z7_0 := Mem.lt M7.1
    have c7_1_0 := Mem.cell (v := .slice c1 0 d1) M7.2.1 0 rfl
    have c7_1_1 := Mem.cell (v := .slice c2 0 d2) M7.2.1 1 rfl
    have z7_1 := Mem.lt M7.2.1
    go_wp2_with fail
    refine Calls.named ?_
    intro W8 hW8
    have hB8_ : Below w.heap.size w W8 := by rw [hW8]; exact hB7
    have hw8_ : LaidI W8 := by rw [hW8]; exact hw7
    have M8_ := M7
    rw [← hW8] at M8_
    clear hW8
    have ZZ8_0 := Lib.hid (Mem.lt M8_.1)
    have ZZ8_1 := Lib.hid (Mem.lt M8_.2.1)
    clear c7_0_0 c7_0_1 z7_0 c7_1_0 c7_1_1 z7_1
    refine (parse_im _ _ HDS.out hw8_ im0 q 4 HPD.out 0 0 rfl rfl).mono ?_
    rintro e w8 ⟨c5, d5, c6, d6, rfl, -, hb8⟩
    have hB8 := below_then hB8_ hb8
    have hw8 := hw8_.below hb8
    have M8 := M8_.below hb8
    clear M8_ hB8_ hb8 hw8_
    have c8_0_0 := Mem.cell (v := .slice c3 imx.cs.length d3) M8.1 0 rfl
    have c8_0_1 := Mem.cell (v := .slice c4 imx.fs.length d4) M8.1 1 rfl
    have z8_0 := Mem.lt M8.1
    have c8_1_0 := Mem.cell (v := .slice c1 0 d1) M8.2.1 0 rfl
    have c8_1_1 := Mem.cell (v := .slice c2 0 d2) M8.2.1 1 rfl
    have z8_1 := Mem.lt M8.2.1
    go_wp2_with fail
    go_ret
    exact ⟨rfl, (below_al hB8 _)⟩
  · obtain ⟨imx, hx1⟩ : ∃ imx, imx = (parseA (linesB L)).1 := ⟨_, rfl⟩
    obtain ⟨E, hx2⟩ : ∃ E, E = (parseA (linesB L)).2.2 := ⟨_, rfl⟩
    have hpa : parseA P.data.toList = (imx, 0, E) := by
      rw [hPd, hx1, hx2, ← parseA_zero h4]
    rw [← hx2] at h4
    have z1 : (E == 4) = false := by simpa using h4
    have HPA := Lib.hid hpa
    clear hL hM hn hm hLL hlm hL1 hP hPs hPd hl40 hpa hx1 hx2
    go_enter Tryz.func3, Tryz.ntmps3
    have hB0 := Below.refl w.heap.size w
    have M0 := Mem.nil w
    have hw0 := hw
    go_wp2_with fail
    refine Calls.named ?_
    intro W1 hW1
    have hB1_ : Below w.heap.size w W1 := by rw [hW1]; exact hB0
    have hw1_ : LaidI W1 := by rw [hW1]; exact hw
    have M1_ := Mem.nil W1
    clear hW1
    refine (aex_any _ hw1_).mono ?_
    rintro e w1 ⟨rfl, hb1⟩
    have hB1 := below_then hB1_ hb1
    have hw1 := hw1_.below hb1
    have M1 := M1_.below hb1
    clear M1_ hB1_ hb1 hw1_
    go_wp2_with fail
    refine Calls.named ?_
    intro W2 hW2
    have hB2_ : Below w.heap.size w W2 := by rw [hW2]; exact hB1
    have hw2_ : LaidI W2 := by rw [hW2]; exact hw1
    have M2_ := Mem.nil W2
    clear hW2
    refine (lines_c _ L _ (HL1.out.below hB2_) P HP.out).mono ?_
    rintro e w2 ⟨rfl, hb2⟩
    have hB2 := below_then hB2_ hb2
    have hw2 := hw2_.below hb2
    have M2 := M2_.below hb2
    clear M2_ hB2_ hb2 hw2_
    go_wp2_with fail
    refine Calls.named ?_
    intro W3 hW3
    have hB3_ : Below w.heap.size w W3 := by rw [hW3]; exact hB2
    have hw3_ : LaidI W3 := by rw [hW3]; exact hw2
    have M3_ := Mem.nil W3
    clear hW3
    refine (parse_im P _ HPS.out hw3_ imx 0 E HPA.out _ _ rfl rfl).mono ?_
    rintro e w3 ⟨c1, d1, c2, d2, rfl, -, hb3⟩
    have hB3 := below_then hB3_ hb3
    have hw3 := hw3_.below hb3
    have M3 := M3_.below hb3
    clear M3_ hB3_ hb3 hw3_
    go_wp2_with fail
    go_ret
    exact ⟨rfl, (below_al hB3 _)⟩
end Go.Proofs.YtiggallcoocdaaaGreatDoor
