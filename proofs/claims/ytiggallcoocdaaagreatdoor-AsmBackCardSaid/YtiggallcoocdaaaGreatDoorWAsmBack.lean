/- What is printed of a program that may be is parsed as the same; of one that may not nothing is printed. The walk: the law answers true; no memory that was there is turned. Conditions: the listed package variables hold what the program's text lays; every other argument of the parameter types. -/
import Derived.Test.YtiggallcoocdaaaGreatDoorZD
namespace Go.Proofs.YtiggallcoocdaaaGreatDoor
open Go.RowKit
set_option maxRecDepth 100000 in
set_option maxHeartbeats 8000000 in
theorem asmBack_walk (c d : Value) (im : Im) (v : Value) (ll : List (List UInt8)) (hz : ∀ v ∈ im.cs, smallV 140737488351232 v) (w : World) (hV : VsAt w c im.cs) (hF : FsAt w d im.fs) (hL : LsAt w v ll) (hw : LaidI w) :
    Calls Tryz.prog 5 #[.agg #[c, d], v] w fun e w' => e = .returned (.bool true) ∧ Below w.heap.size w w' := by
  obtain ⟨cs, fs⟩ := im
  obtain ⟨vo, vc, rfl⟩ := hL.slice
  obtain ⟨co, cp, rfl⟩ := hV.slice
  obtain ⟨fo, cq, rfl⟩ := hF.slice
  simp only at hV hF hz ⊢
  obtain ⟨n, hn⟩ : ∃ n, n = cs.length := ⟨_, rfl⟩
  obtain ⟨m, hm⟩ : ∃ m, m = fs.length := ⟨_, rfl⟩
  rw [← hn] at hV ⊢
  rw [← hm] at hF ⊢
  obtain ⟨n2, hn2⟩ : ∃ n2, (cutC cs).length = n2 := ⟨_, rfl⟩
  have hcz := cut_sized hz fs
  have HL := Lib.hid hL
  have HV := Lib.hid hV
  have HF := Lib.hid hF
  have HN := Lib.hid hn
  have HM := Lib.hid hm
  have HN2 := Lib.hid hn2
  have HZ := Lib.hid hcz
  clear hL hV hF hn hm hz hn2 hcz
  go_enter Tryz.func5, Tryz.ntmps5
  have hB0 := Below.refl w.heap.size w
  have M0 := Mem.nil w
  have hw0 := hw
  go_wp2_with fail
  refine Calls.named ?_
  intro W1 hW1
  have hB1_ : Below w.heap.size w W1 := by rw [hW1]; exact (below_al hB0 _)
  have hw1_ : LaidI W1 := by rw [hW1]; exact (hw.alloc _)
  have M1_ := (M0).new' (w.heap.size) (by rfl) (.cells #[.slice co n cp, .slice fo m cq] 27)
  rw [← hW1] at M1_
  clear hW1
  have ZZ1_0 := Lib.hid (Mem.lt M1_.1)
  refine (aex_any _ hw1_).mono ?_
  rintro e w1 ⟨rfl, hb1⟩
  have hB1 := below_then hB1_ hb1
  have hw1 := hw1_.below hb1
  have M1 := M1_.below hb1
  clear M1_ hB1_ hb1 hw1_
  have c1_0_0 := Mem.cell (v := .slice co n cp) M1.1 0 rfl
  have c1_0_1 := Mem.cell (v := .slice fo m cq) M1.1 1 rfl
  have z1_0 := Mem.lt M1.1
  go_wp2_with fail
  refine Calls.named ?_
  intro W2 hW2
  have hB2_ : Below w.heap.size w W2 := by rw [hW2]; exact hB1
  have hw2_ : LaidI W2 := by rw [hW2]; exact hw1
  have M2_ := M1
  rw [← hW2] at M2_
  have YY2 : Hid (w1.heap.size ≤ W2.heap.size) := Lib.hid (by rw [hW2]; first | exact Nat.le_refl _ | (simp; done) | (simp; omega))
  clear hW2
  have ZZ2_0 := Lib.hid (Mem.lt M2_.1)
  clear c1_0_0 c1_0_1 z1_0
  refine (cut_c cs n2 HN2.out co fo n cp m cq HN.out _ (HV.out.below hB2_)).mono ?_
  rintro e w2 ⟨ao, cap, rfl, hO, hb2⟩
  have hB2 := below_then hB2_ hb2
  have hw2 := hw2_.below hb2
  have M2 := M2_.below hb2
  clear M2_ hB2_ hb2 hw2_
  have c2_0_0 := Mem.cell (v := .slice co n cp) M2.1 0 rfl
  have c2_0_1 := Mem.cell (v := .slice fo m cq) M2.1 1 rfl
  have z2_0 := Mem.lt M2.1
  have hlow : w.heap.size < W2.heap.size := ZZ2_0.out
  have HO := Lib.hid hO
  clear hO
  have f2 := fun j => Mem.free M2.1 j
  go_upto_region 5 with (fail)
  have hX2 : (w2.setCells (w.heap.size) 0 [.slice ao n2 cap, .slice fo m cq]).heap[w.heap.size]? = some (.cells #[.slice ao n2 cap, .slice fo m cq] 27) := by rw [setCells_block [.slice ao n2 cap, .slice fo m cq] 0 _ _ (M2).1 (by simp)]; rfl
  have hY2 := below_setCells (B := w.heap.size) hB2 (b := w.heap.size) (by have := hB2.size; omega) 0 [.slice ao n2 cap, .slice fo m cq]
  refine wp_named ?_
  intro w3 hW3
  have hB3 : Below w.heap.size w w3 := by rw [hW3]; exact hY2
  have hw3 : LaidI w3 := hw0.below hB3
  have M3 : Mem w3 [(w.heap.size, .cells #[.slice ao n2 cap, .slice fo m cq] 27)] := by rw [hW3]; exact ⟨hX2, trivial⟩
  have hO := owns_set HO.out (b := w.heap.size) hlow 0 [.slice ao n2 cap, .slice fo m cq]
  rw [show w2.setCells (w.heap.size) 0 [.slice ao n2 cap, .slice fo m cq] = w3 from hW3.symm] at hO
  clear c2_0_0 c2_0_1 z2_0
  clear hW3 hX2 hY2
  have c3_0_0 := Mem.cell (v := .slice ao n2 cap) M3.1 0 rfl
  have c3_0_1 := Mem.cell (v := .slice fo m cq) M3.1 1 rfl
  have z3_0 := Mem.lt M3.1
  have hI : ImAt (.slice ao n2 cap) (.slice fo m cq) ⟨cutC cs, fs⟩ w3 := ⟨VsAt.of_owns (by rw [HN2.out]; rw [HN2.out] at hO; exact hO), HF.out.below hB3⟩
  clear hO
  have hIs : Im.sized ⟨cutC cs, fs⟩ := HZ.out
  have HIS := Lib.hid hIs
  clear hIs
  go_wp2_with fail
  refine Calls.named ?_
  intro W4 hW4
  have hB4_ : Below w.heap.size w W4 := by rw [hW4]; exact hB3
  have hw4_ : LaidI W4 := by rw [hW4]; exact hw3
  have M4_ := M3
  rw [← hW4] at M4_
  have hS4 : Below w3.heap.size w3 W4 := by rw [hW4]; exact (Below.refl _ _)
  have hI_ := ImAt.below hI hS4
  clear hS4 hI
  have YY4 : Hid (w3.heap.size ≤ W4.heap.size) := Lib.hid (by rw [hW4]; first | exact Nat.le_refl _ | (simp; done) | (simp; omega))
  clear hW4
  have ZZ4_0 := Lib.hid (Mem.lt M4_.1)
  clear c3_0_0 c3_0_1 z3_0
  refine (made_c _ _ _ (HL.out.below hB4_)).mono ?_
  rintro e w4 ⟨fa, ca, xa, pa, ya, rfl, hA, hb4⟩
  have hI := ImAt.below hI_ hb4
  clear hI_
  have hB4 := below_then hB4_ hb4
  have hw4 := hw4_.below hb4
  have M4 := M4_.below hb4
  clear M4_ hB4_ hb4 hw4_
  have c4_0_0 := Mem.cell (v := .slice ao n2 cap) M4.1 0 rfl
  have c4_0_1 := Mem.cell (v := .slice fo m cq) M4.1 1 rfl
  have z4_0 := Mem.lt M4.1
  have hck := made_check hA.len hA.good
  have hlen := hA.len
  have hfit := check_fit hck
  have hsz : Im.sized ⟨madeCs, fa⟩ := madeCs_ok
  obtain ⟨P, hP⟩ : ∃ P : ByteArray, P = ⟨(printI (Im.mk madeCs fa)).toArray⟩ := ⟨_, rfl⟩
  have hpa : parseA P.data.toList = (Im.mk madeCs fa, 0, 0) := by rw [hP]; exact parse_print hck (fun v hv => (hsz v hv).2)
  have hPs : P.size ≤ 500000000 := by
    have := print_small (im := Im.mk madeCs fa) (fun v hv => (hsz v hv).2)
    rw [hP, b_size]
    omega
  replace hA := hA.at
  have HCK := Lib.hid hck
  have HLEN := Lib.hid hlen
  have HFIT := Lib.hid hfit
  have HSZ := Lib.hid hsz
  have HP := Lib.hid hP
  have HPA := Lib.hid hpa
  have HPS := Lib.hid hPs
  clear hck hlen hfit hsz hP hpa hPs
  go_wp2_with fail
  refine Calls.named ?_
  intro W5 hW5
  have hB5_ : Below w.heap.size w W5 := by rw [hW5]; exact (below_al hB4 _)
  have hw5_ : LaidI W5 := by rw [hW5]; exact (hw4.alloc _)
  have M5_ := (M4).new' (w4.heap.size) (by rfl) (.cells #[.slice ca 16 xa, .slice pa 3 ya] 27)
  rw [← hW5] at M5_
  have hS5 : Below w4.heap.size w4 W5 := by rw [hW5]; exact (below_al (Below.refl _ _) _)
  have hI_ := ImAt.below hI hS5
  have hA_ := ImAt.below hA hS5
  clear hS5 hI hA
  have YY5 : Hid (w4.heap.size ≤ W5.heap.size) := Lib.hid (by rw [hW5]; first | exact Nat.le_refl _ | (simp; done) | (simp; omega))
  clear hW5
  have ZZ5_0 := Lib.hid (Mem.lt M5_.1)
  have ZZ5_1 := Lib.hid (Mem.lt M5_.2.1)
  clear c4_0_0 c4_0_1 z4_0
  refine (print_im _ _ _ HSZ.out _ hw5_ hA_ P HP.out).mono ?_
  rintro e w5 ⟨rfl, hb5⟩
  have hI := ImAt.below hI_ hb5
  have hA := ImAt.below hA_ hb5
  clear hI_ hA_
  have hB5 := below_then hB5_ hb5
  have hw5 := hw5_.below hb5
  have M5 := M5_.below hb5
  clear M5_ hB5_ hb5 hw5_
  have c5_0_0 := Mem.cell (v := .slice ca 16 xa) M5.1 0 rfl
  have c5_0_1 := Mem.cell (v := .slice pa 3 ya) M5.1 1 rfl
  have z5_0 := Mem.lt M5.1
  have c5_1_0 := Mem.cell (v := .slice ao n2 cap) M5.2.1 0 rfl
  have c5_1_1 := Mem.cell (v := .slice fo m cq) M5.2.1 1 rfl
  have z5_1 := Mem.lt M5.2.1
  go_wp2_with fail
  refine Calls.named ?_
  intro W6 hW6
  have hB6_ : Below w.heap.size w W6 := by rw [hW6]; exact hB5
  have hw6_ : LaidI W6 := by rw [hW6]; exact hw5
  have M6_ := M5
  rw [← hW6] at M6_
  have hS6 : Below w5.heap.size w5 W6 := by rw [hW6]; exact (Below.refl _ _)
  have hI_ := ImAt.below hI hS6
  have hA_ := ImAt.below hA hS6
  clear hS6 hI hA
  have YY6 : Hid (w5.heap.size ≤ W6.heap.size) := Lib.hid (by rw [hW6]; first | exact Nat.le_refl _ | (simp; done) | (simp; omega))
  clear hW6
  have ZZ6_0 := Lib.hid (Mem.lt M6_.1)
  have ZZ6_1 := Lib.hid (Mem.lt M6_.2.1)
  clear c5_0_0 c5_0_1 z5_0 c5_1_0 c5_1_1 z5_1
  refine (parse_im P _ HPS.out hw6_ ⟨madeCs, fa⟩ 0 0 HPA.out 16 3 rfl HLEN.out).mono ?_
  rintro e w6 ⟨cg, xg, pg, yg, rfl, hG, hb6⟩
  have hI := ImAt.below hI_ hb6
  have hA := ImAt.below hA_ hb6
  clear hI_ hA_
  have hB6 := below_then hB6_ hb6
  have hw6 := hw6_.below hb6
  have M6 := M6_.below hb6
  clear M6_ hB6_ hb6 hw6_
  have c6_0_0 := Mem.cell (v := .slice ca 16 xa) M6.1 0 rfl
  have c6_0_1 := Mem.cell (v := .slice pa 3 ya) M6.1 1 rfl
  have z6_0 := Mem.lt M6.1
  have c6_1_0 := Mem.cell (v := .slice ao n2 cap) M6.2.1 0 rfl
  have c6_1_1 := Mem.cell (v := .slice fo m cq) M6.2.1 1 rfl
  have z6_1 := Mem.lt M6.2.1
  replace hG := hG.at
  go_wp2_with fail
  refine Calls.named ?_
  intro W7 hW7
  have hB7_ : Below w.heap.size w W7 := by rw [hW7]; exact (below_al hB6 _)
  have hw7_ : LaidI W7 := by rw [hW7]; exact (hw6.alloc _)
  have M7_ := (M6).new' (w6.heap.size) (by rfl) (.cells #[.slice cg 16 xg, .slice pg 3 yg] 27)
  rw [← hW7] at M7_
  have hS7 : Below w6.heap.size w6 W7 := by rw [hW7]; exact (below_al (Below.refl _ _) _)
  have hI_ := ImAt.below hI hS7
  have hA_ := ImAt.below hA hS7
  have hG_ := ImAt.below hG hS7
  clear hS7 hI hA hG
  have YY7 : Hid (w6.heap.size ≤ W7.heap.size) := Lib.hid (by rw [hW7]; first | exact Nat.le_refl _ | (simp; done) | (simp; omega))
  clear hW7
  have ZZ7_0 := Lib.hid (Mem.lt M7_.1)
  have ZZ7_1 := Lib.hid (Mem.lt M7_.2.1)
  have ZZ7_2 := Lib.hid (Mem.lt M7_.2.2.1)
  clear c6_0_0 c6_0_1 z6_0 c6_1_0 c6_1_1 z6_1
  refine (same_im _ _ _ _ _ _ HFIT.out HFIT.out _ hG_ hA_ true (decide_eq_true rfl)).mono ?_
  rintro e w7 ⟨rfl, hb7⟩
  have hI := ImAt.below hI_ hb7
  have hA := ImAt.below hA_ hb7
  have hG := ImAt.below hG_ hb7
  clear hI_ hA_ hG_
  have hB7 := below_then hB7_ hb7
  have hw7 := hw7_.below hb7
  have M7 := M7_.below hb7
  clear M7_ hB7_ hb7 hw7_
  have c7_0_0 := Mem.cell (v := .slice cg 16 xg) M7.1 0 rfl
  have c7_0_1 := Mem.cell (v := .slice pg 3 yg) M7.1 1 rfl
  have z7_0 := Mem.lt M7.1
  have c7_1_0 := Mem.cell (v := .slice ca 16 xa) M7.2.1 0 rfl
  have c7_1_1 := Mem.cell (v := .slice pa 3 ya) M7.2.1 1 rfl
  have z7_1 := Mem.lt M7.2.1
  have c7_2_0 := Mem.cell (v := .slice ao n2 cap) M7.2.2.1 0 rfl
  have c7_2_1 := Mem.cell (v := .slice fo m cq) M7.2.2.1 1 rfl
  have z7_2 := Mem.lt M7.2.2.1
  clear hA
  clear hG
  by_cases hck : Im.check ⟨cutC cs, fs⟩ = 0
  · obtain ⟨P2, hP⟩ : ∃ P : ByteArray, P = ⟨(printI (Im.mk (cutC cs) fs)).toArray⟩ := ⟨_, rfl⟩
    have hpa : parseA P2.data.toList = (Im.mk (cutC cs) fs, 0, 0) := by rw [hP]; exact parse_print hck (fun v hv => (HIS.out v hv).2)
    have hPs : P2.size ≤ 500000000 := by
      have := print_small (im := Im.mk (cutC cs) fs) (fun v hv => (HIS.out v hv).2)
      rw [hP, b_size]
      omega
    have HCK2 := Lib.hid hck
    have HFIT2 := Lib.hid (check_fit hck)
    have HP2 := Lib.hid hP
    have HPA2 := Lib.hid hpa
    have HPS2 := Lib.hid hPs
    clear hck hP hpa hPs
    go_wp2_with fail
    refine Calls.named ?_
    intro W8 hW8
    have hB8_ : Below w.heap.size w W8 := by rw [hW8]; exact hB7
    have hw8_ : LaidI W8 := by rw [hW8]; exact hw7
    have M8_ := M7
    rw [← hW8] at M8_
    have hS8 : Below w7.heap.size w7 W8 := by rw [hW8]; exact (Below.refl _ _)
    have hI_ := ImAt.below hI hS8
    clear hS8 hI
    have YY8 : Hid (w7.heap.size ≤ W8.heap.size) := Lib.hid (by rw [hW8]; first | exact Nat.le_refl _ | (simp; done) | (simp; omega))
    clear hW8
    have ZZ8_0 := Lib.hid (Mem.lt M8_.1)
    have ZZ8_1 := Lib.hid (Mem.lt M8_.2.1)
    have ZZ8_2 := Lib.hid (Mem.lt M8_.2.2.1)
    clear c7_0_0 c7_0_1 z7_0 c7_1_0 c7_1_1 z7_1 c7_2_0 c7_2_1 z7_2
    refine (check_im _ _ _ HIS.out _ hw8_ hI_ 0 HCK2.out).mono ?_
    rintro e w8 ⟨rfl, hb8⟩
    have hI := ImAt.below hI_ hb8
    clear hI_
    have hB8 := below_then hB8_ hb8
    have hw8 := hw8_.below hb8
    have M8 := M8_.below hb8
    clear M8_ hB8_ hb8 hw8_
    have c8_0_0 := Mem.cell (v := .slice cg 16 xg) M8.1 0 rfl
    have c8_0_1 := Mem.cell (v := .slice pg 3 yg) M8.1 1 rfl
    have z8_0 := Mem.lt M8.1
    have c8_1_0 := Mem.cell (v := .slice ca 16 xa) M8.2.1 0 rfl
    have c8_1_1 := Mem.cell (v := .slice pa 3 ya) M8.2.1 1 rfl
    have z8_1 := Mem.lt M8.2.1
    have c8_2_0 := Mem.cell (v := .slice ao n2 cap) M8.2.2.1 0 rfl
    have c8_2_1 := Mem.cell (v := .slice fo m cq) M8.2.2.1 1 rfl
    have z8_2 := Mem.lt M8.2.2.1
    go_wp2_with fail
    refine Calls.named ?_
    intro W9 hW9
    have hB9_ : Below w.heap.size w W9 := by rw [hW9]; exact hB8
    have hw9_ : LaidI W9 := by rw [hW9]; exact hw8
    have M9_ := M8
    rw [← hW9] at M9_
    have hS9 : Below w8.heap.size w8 W9 := by rw [hW9]; exact (Below.refl _ _)
    have hI_ := ImAt.below hI hS9
    clear hS9 hI
    have YY9 : Hid (w8.heap.size ≤ W9.heap.size) := Lib.hid (by rw [hW9]; first | exact Nat.le_refl _ | (simp; done) | (simp; omega))
    clear hW9
    have ZZ9_0 := Lib.hid (Mem.lt M9_.1)
    have ZZ9_1 := Lib.hid (Mem.lt M9_.2.1)
    have ZZ9_2 := Lib.hid (Mem.lt M9_.2.2.1)
    clear c8_0_0 c8_0_1 z8_0 c8_1_0 c8_1_1 z8_1 c8_2_0 c8_2_1 z8_2
    refine (print_im _ _ _ HIS.out _ hw9_ hI_ P2 HP2.out).mono ?_
    rintro e w9 ⟨rfl, hb9⟩
    have hI := ImAt.below hI_ hb9
    clear hI_
    have hB9 := below_then hB9_ hb9
    have hw9 := hw9_.below hb9
    have M9 := M9_.below hb9
    clear M9_ hB9_ hb9 hw9_
    have c9_0_0 := Mem.cell (v := .slice cg 16 xg) M9.1 0 rfl
    have c9_0_1 := Mem.cell (v := .slice pg 3 yg) M9.1 1 rfl
    have z9_0 := Mem.lt M9.1
    have c9_1_0 := Mem.cell (v := .slice ca 16 xa) M9.2.1 0 rfl
    have c9_1_1 := Mem.cell (v := .slice pa 3 ya) M9.2.1 1 rfl
    have z9_1 := Mem.lt M9.2.1
    have c9_2_0 := Mem.cell (v := .slice ao n2 cap) M9.2.2.1 0 rfl
    have c9_2_1 := Mem.cell (v := .slice fo m cq) M9.2.2.1 1 rfl
    have z9_2 := Mem.lt M9.2.2.1
    go_wp2_with fail
    refine Calls.named ?_
    intro W10 hW10
    have hB10_ : Below w.heap.size w W10 := by rw [hW10]; exact hB9
    have hw10_ : LaidI W10 := by rw [hW10]; exact hw9
    have M10_ := M9
    rw [← hW10] at M10_
    have hS10 : Below w9.heap.size w9 W10 := by rw [hW10]; exact (Below.refl _ _)
    have hI_ := ImAt.below hI hS10
    clear hS10 hI
    have YY10 : Hid (w9.heap.size ≤ W10.heap.size) := Lib.hid (by rw [hW10]; first | exact Nat.le_refl _ | (simp; done) | (simp; omega))
    clear hW10
    have ZZ10_0 := Lib.hid (Mem.lt M10_.1)
    have ZZ10_1 := Lib.hid (Mem.lt M10_.2.1)
    have ZZ10_2 := Lib.hid (Mem.lt M10_.2.2.1)
    clear c9_0_0 c9_0_1 z9_0 c9_1_0 c9_1_1 z9_1 c9_2_0 c9_2_1 z9_2
    refine (parse_im P2 _ HPS2.out hw10_ ⟨cutC cs, fs⟩ 0 0 HPA2.out n2 m HN2.out HM.out.symm).mono ?_
    rintro e w10 ⟨cg2, xg2, pg2, yg2, rfl, hG, hb10⟩
    have hI := ImAt.below hI_ hb10
    clear hI_
    have hB10 := below_then hB10_ hb10
    have hw10 := hw10_.below hb10
    have M10 := M10_.below hb10
    clear M10_ hB10_ hb10 hw10_
    have c10_0_0 := Mem.cell (v := .slice cg 16 xg) M10.1 0 rfl
    have c10_0_1 := Mem.cell (v := .slice pg 3 yg) M10.1 1 rfl
    have z10_0 := Mem.lt M10.1
    have c10_1_0 := Mem.cell (v := .slice ca 16 xa) M10.2.1 0 rfl
    have c10_1_1 := Mem.cell (v := .slice pa 3 ya) M10.2.1 1 rfl
    have z10_1 := Mem.lt M10.2.1
    have c10_2_0 := Mem.cell (v := .slice ao n2 cap) M10.2.2.1 0 rfl
    have c10_2_1 := Mem.cell (v := .slice fo m cq) M10.2.2.1 1 rfl
    have z10_2 := Mem.lt M10.2.2.1
    replace hG := hG.at
    go_wp2_with fail
    refine Calls.named ?_
    intro W11 hW11
    have hB11_ : Below w.heap.size w W11 := by rw [hW11]; exact (below_al hB10 _)
    have hw11_ : LaidI W11 := by rw [hW11]; exact (hw10.alloc _)
    have M11_ := (M10).new' (w10.heap.size) (by rfl) (.cells #[.slice cg2 n2 xg2, .slice pg2 m yg2] 27)
    rw [← hW11] at M11_
    have hS11 : Below w10.heap.size w10 W11 := by rw [hW11]; exact (below_al (Below.refl _ _) _)
    have hI_ := ImAt.below hI hS11
    have hG_ := ImAt.below hG hS11
    clear hS11 hI hG
    have YY11 : Hid (w10.heap.size ≤ W11.heap.size) := Lib.hid (by rw [hW11]; first | exact Nat.le_refl _ | (simp; done) | (simp; omega))
    clear hW11
    have ZZ11_0 := Lib.hid (Mem.lt M11_.1)
    have ZZ11_1 := Lib.hid (Mem.lt M11_.2.1)
    have ZZ11_2 := Lib.hid (Mem.lt M11_.2.2.1)
    have ZZ11_3 := Lib.hid (Mem.lt M11_.2.2.2.1)
    clear c10_0_0 c10_0_1 z10_0 c10_1_0 c10_1_1 z10_1 c10_2_0 c10_2_1 z10_2
    refine (same_im _ _ _ _ _ _ HFIT2.out HFIT2.out _ hG_ hI_ true (decide_eq_true rfl)).mono ?_
    rintro e w11 ⟨rfl, hb11⟩
    have hI := ImAt.below hI_ hb11
    have hG := ImAt.below hG_ hb11
    clear hI_ hG_
    have hB11 := below_then hB11_ hb11
    have hw11 := hw11_.below hb11
    have M11 := M11_.below hb11
    clear M11_ hB11_ hb11 hw11_
    have c11_0_0 := Mem.cell (v := .slice cg2 n2 xg2) M11.1 0 rfl
    have c11_0_1 := Mem.cell (v := .slice pg2 m yg2) M11.1 1 rfl
    have z11_0 := Mem.lt M11.1
    have c11_1_0 := Mem.cell (v := .slice cg 16 xg) M11.2.1 0 rfl
    have c11_1_1 := Mem.cell (v := .slice pg 3 yg) M11.2.1 1 rfl
    have z11_1 := Mem.lt M11.2.1
    have c11_2_0 := Mem.cell (v := .slice ca 16 xa) M11.2.2.1 0 rfl
    have c11_2_1 := Mem.cell (v := .slice pa 3 ya) M11.2.2.1 1 rfl
    have z11_2 := Mem.lt M11.2.2.1
    have c11_3_0 := Mem.cell (v := .slice ao n2 cap) M11.2.2.2.1 0 rfl
    have c11_3_1 := Mem.cell (v := .slice fo m cq) M11.2.2.2.1 1 rfl
    have z11_3 := Mem.lt M11.2.2.2.1
    go_wp2_with fail
    go_ret
    exact ⟨rfl, hB11⟩
  · obtain ⟨E, hE⟩ : ∃ E, Im.check ⟨cutC cs, fs⟩ = E := ⟨_, rfl⟩
    have hP : (⟨#[]⟩ : ByteArray) = ⟨(printI (Im.mk (cutC cs) fs)).toArray⟩ := by unfold printI; rw [if_neg hck]
    have HCK2 := Lib.hid hE
    have HP2 := Lib.hid hP
    rw [hE] at hck
    have hck2 : (E == 0) = false := by simpa using hck
    clear hP hE
    go_wp2_with fail
    refine Calls.named ?_
    intro W8 hW8
    have hB8_ : Below w.heap.size w W8 := by rw [hW8]; exact hB7
    have hw8_ : LaidI W8 := by rw [hW8]; exact hw7
    have M8_ := M7
    rw [← hW8] at M8_
    have hS8 : Below w7.heap.size w7 W8 := by rw [hW8]; exact (Below.refl _ _)
    have hI_ := ImAt.below hI hS8
    clear hS8 hI
    have YY8 : Hid (w7.heap.size ≤ W8.heap.size) := Lib.hid (by rw [hW8]; first | exact Nat.le_refl _ | (simp; done) | (simp; omega))
    clear hW8
    have ZZ8_0 := Lib.hid (Mem.lt M8_.1)
    have ZZ8_1 := Lib.hid (Mem.lt M8_.2.1)
    have ZZ8_2 := Lib.hid (Mem.lt M8_.2.2.1)
    clear c7_0_0 c7_0_1 z7_0 c7_1_0 c7_1_1 z7_1 c7_2_0 c7_2_1 z7_2
    refine (check_im _ _ _ HIS.out _ hw8_ hI_ E HCK2.out).mono ?_
    rintro e w8 ⟨rfl, hb8⟩
    have hI := ImAt.below hI_ hb8
    clear hI_
    have hB8 := below_then hB8_ hb8
    have hw8 := hw8_.below hb8
    have M8 := M8_.below hb8
    clear M8_ hB8_ hb8 hw8_
    have c8_0_0 := Mem.cell (v := .slice cg 16 xg) M8.1 0 rfl
    have c8_0_1 := Mem.cell (v := .slice pg 3 yg) M8.1 1 rfl
    have z8_0 := Mem.lt M8.1
    have c8_1_0 := Mem.cell (v := .slice ca 16 xa) M8.2.1 0 rfl
    have c8_1_1 := Mem.cell (v := .slice pa 3 ya) M8.2.1 1 rfl
    have z8_1 := Mem.lt M8.2.1
    have c8_2_0 := Mem.cell (v := .slice ao n2 cap) M8.2.2.1 0 rfl
    have c8_2_1 := Mem.cell (v := .slice fo m cq) M8.2.2.1 1 rfl
    have z8_2 := Mem.lt M8.2.2.1
    go_wp2_with fail
    refine Calls.named ?_
    intro W9 hW9
    have hB9_ : Below w.heap.size w W9 := by rw [hW9]; exact hB8
    have hw9_ : LaidI W9 := by rw [hW9]; exact hw8
    have M9_ := M8
    rw [← hW9] at M9_
    have hS9 : Below w8.heap.size w8 W9 := by rw [hW9]; exact (Below.refl _ _)
    have hI_ := ImAt.below hI hS9
    clear hS9 hI
    have YY9 : Hid (w8.heap.size ≤ W9.heap.size) := Lib.hid (by rw [hW9]; first | exact Nat.le_refl _ | (simp; done) | (simp; omega))
    clear hW9
    have ZZ9_0 := Lib.hid (Mem.lt M9_.1)
    have ZZ9_1 := Lib.hid (Mem.lt M9_.2.1)
    have ZZ9_2 := Lib.hid (Mem.lt M9_.2.2.1)
    clear c8_0_0 c8_0_1 z8_0 c8_1_0 c8_1_1 z8_1 c8_2_0 c8_2_1 z8_2
    refine (print_im _ _ _ HIS.out _ hw9_ hI_ ⟨#[]⟩ HP2.out).mono ?_
    rintro e w9 ⟨rfl, hb9⟩
    have hI := ImAt.below hI_ hb9
    clear hI_
    have hB9 := below_then hB9_ hb9
    have hw9 := hw9_.below hb9
    have M9 := M9_.below hb9
    clear M9_ hB9_ hb9 hw9_
    have c9_0_0 := Mem.cell (v := .slice cg 16 xg) M9.1 0 rfl
    have c9_0_1 := Mem.cell (v := .slice pg 3 yg) M9.1 1 rfl
    have z9_0 := Mem.lt M9.1
    have c9_1_0 := Mem.cell (v := .slice ca 16 xa) M9.2.1 0 rfl
    have c9_1_1 := Mem.cell (v := .slice pa 3 ya) M9.2.1 1 rfl
    have z9_1 := Mem.lt M9.2.1
    have c9_2_0 := Mem.cell (v := .slice ao n2 cap) M9.2.2.1 0 rfl
    have c9_2_1 := Mem.cell (v := .slice fo m cq) M9.2.2.1 1 rfl
    have z9_2 := Mem.lt M9.2.2.1
    go_wp2_with fail
    go_ret
    exact ⟨rfl, hB9⟩
end Go.Proofs.YtiggallcoocdaaaGreatDoor
