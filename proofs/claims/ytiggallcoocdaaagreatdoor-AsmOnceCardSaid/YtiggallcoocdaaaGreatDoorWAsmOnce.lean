/- What is parsed may be, and is printed as a text that is parsed as the same; lines that say nothing turn nothing. The walk: the law answers true; no memory that was there is turned. Conditions: the listed package variables hold what the program's text lays; every other argument of the parameter types. -/
import Derived.Test.YtiggallcoocdaaaGreatDoorZD
namespace Go.Proofs.YtiggallcoocdaaaGreatDoor
open Go.RowKit
theorem parseA_err {l : List UInt8} (h : (parseA l).2.2 ≠ 0) : (parseA l).1 = im0 := by
  unfold parseA at h ⊢
  cases hr : runL im0 (pieces 10 l) with
  | none => rfl
  | some im =>
    rw [hr] at h
    simp only at h ⊢
    by_cases hc : im.check = 0
    · rw [if_pos hc] at h
      exact absurd rfl h
    · rw [if_neg hc]
theorem parsed_sized {l : List UInt8} {im : Im} (h : parseA l = (im, 0, 0)) : im.sized := by
  obtain ⟨h1, h2, h3⟩ := parseA_ok h
  intro v hv
  exact ⟨small_right (runL_right h3 (fun u hu => by simp [im0] at hu) v hv), h2 v hv⟩
set_option maxRecDepth 100000 in
set_option maxHeartbeats 8000000 in
theorem asmOnce_walk (v : Value) (l : List UInt8) (x : Int) (hx : 0 ≤ x ∧ x ≤ 255) (w : World) (hL : BsAt w v l) (hw : LaidI w) :
    Calls Tryz.prog 6 #[v, .int .u8 x] w fun e w' => e = .returned (.bool true) ∧ Below w.heap.size w w' := by
  obtain ⟨ao, cap, rfl⟩ := hL.form
  obtain ⟨n, hn⟩ : ∃ n, n = l.length := ⟨_, rfl⟩
  have hbig : n ≤ 1152921504606846976 := by rw [hn]; exact hL.2
  rw [← hn] at hL ⊢
  obtain ⟨y, rfl⟩ : ∃ y : Nat, x = y := ⟨x.toNat, by omega⟩
  obtain ⟨N1, hN1⟩ : ∃ N1, N1 = n + 1 := ⟨_, rfl⟩
  obtain ⟨k, hk⟩ : ∃ k, k = y % N1 := ⟨_, rfl⟩
  have hkn : k ≤ n := by
    have := Nat.mod_lt y (show 0 < N1 by omega)
    omega
  have e1 : IntKind.i64.wrap ((n : Int) + 1) = (N1 : Int) := by rw [IntWalk.i64_in _ (by omega)]; omega
  have htm : (y : Int).tmod (N1 : Int) = (k : Int) := by rw [hk]; exact Int.ofNat_tmod _ _
  have z1 : ¬ (N1 : Int) = 0 := by omega
  have z2 : ((N1 : Int) == 0) = false := by simpa using z1
  have HW8 : Hid (wrap64 ((y : Nat) : Int) = ((y : Nat) : Int)) := Lib.hid (w64 y (by omega))
  have hslA := slice_h hL hkn (k : Int) rfl
  have hLA := hL.cut hkn
  obtain ⟨bo, bc, hslB, hLB⟩ := slice_l hL hkn (k : Int) rfl
  obtain ⟨r, hr⟩ : ∃ r, r = n - k := ⟨_, rfl⟩
  rw [← hr] at hslB hLB
  obtain ⟨S, hS⟩ : ∃ S : ByteArray, S = ⟨(linesB l).toArray⟩ := ⟨_, rfl⟩
  obtain ⟨A, hA⟩ : ∃ A : ByteArray, A = ⟨(linesB (l.take k)).toArray⟩ := ⟨_, rfl⟩
  obtain ⟨B, hB⟩ : ∃ B : ByteArray, B = ⟨(linesB (l.drop k)).toArray⟩ := ⟨_, rfl⟩
  have hSs : S.size ≤ 1200 := by rw [hS, b_size]; exact linesB_length _
  have hAs : A.size ≤ 1200 := by rw [hA, b_size]; exact linesB_length _
  have hBs : B.size ≤ 1200 := by rw [hB, b_size]; exact linesB_length _
  have hSd : S.data.toList = linesB l := by rw [hS]
  have hTd : (A ++ ⟨#[10, 35, 32, 110, 111, 32, 119, 111, 114, 100, 10, 10]⟩ ++ B).data.toList = linesB (l.take k) ++ noWord ++ linesB (l.drop k) := by rw [hA, hB]; simp [ByteArray.data_append, noWord]
  have hTs : (A ++ ⟨#[10, 35, 32, 110, 111, 32, 119, 111, 114, 100, 10, 10]⟩ ++ B).size ≤ 500000000 := by
    rw [ByteArray.size_append, ByteArray.size_append, show (⟨#[10, 35, 32, 110, 111, 32, 119, 111, 114, 100, 10, 10]⟩ : ByteArray).size = 12 from rfl]
    omega
  have hSS : S.size ≤ 500000000 := by omega
  have hq5 : ¬ 9223372036854775807 < A.size + 12 := by omega
  have hq6 : ¬ 9223372036854775807 < A.size + 12 + B.size := by omega
  have HS := Lib.hid hS
  have HA := Lib.hid hA
  have HB' := Lib.hid hB
  have HSD := Lib.hid hSd
  have HTD := Lib.hid hTd
  have HTS := Lib.hid hTs
  have HSS := Lib.hid hSS
  have HNL := Lib.hid hn
  clear hS hA hB hSd hTd hTs hSS hN1 hk hr hn hSs
  go_enter Tryz.func6, Tryz.ntmps6
  have hB0 := Below.refl w.heap.size w
  have M0 := Mem.nil w
  have hw0 := hw
  go_wp2_with fail
  refine Calls.named ?_
  intro W1 hW1
  have hB1_ : Below w.heap.size w W1 := by rw [hW1]; exact hB0
  have hw1_ : LaidI W1 := by rw [hW1]; exact hw
  have M1_ := Mem.nil W1
  have hS1 : Below w.heap.size w W1 := by rw [hW1]; exact (Below.refl _ _)
  have hL_ := BsAt.below hL hS1
  have hLA_ := BsAt.below hLA hS1
  have hLB_ := BsAt.below hLB hS1
  clear hS1 hL hLA hLB
  clear hW1
  refine (aex_any _ hw1_).mono ?_
  rintro e w1 ⟨rfl, hb1⟩
  have hL := BsAt.below hL_ hb1
  have hLA := BsAt.below hLA_ hb1
  have hLB := BsAt.below hLB_ hb1
  clear hL_ hLA_ hLB_
  have hB1 := below_then hB1_ hb1
  have hw1 := hw1_.below hb1
  have M1 := M1_.below hb1
  clear M1_ hB1_ hb1 hw1_
  have hw8 := HW8.out
  go_wp2_with fail
  refine Calls.named ?_
  intro W2 hW2
  have hB2_ : Below w.heap.size w W2 := by rw [hW2]; exact hB1
  have hw2_ : LaidI W2 := by rw [hW2]; exact hw1
  have M2_ := Mem.nil W2
  have hS2 : Below w1.heap.size w1 W2 := by rw [hW2]; exact (Below.refl _ _)
  have hL_ := BsAt.below hL hS2
  have hLA_ := BsAt.below hLA hS2
  have hLB_ := BsAt.below hLB hS2
  clear hS2 hL hLA hLB
  clear hW2
  refine (lines_c _ l _ hL_ S HS.out).mono ?_
  rintro e w2 ⟨rfl, hb2⟩
  have hL := BsAt.below hL_ hb2
  have hLA := BsAt.below hLA_ hb2
  have hLB := BsAt.below hLB_ hb2
  clear hL_ hLA_ hLB_
  have hB2 := below_then hB2_ hb2
  have hw2 := hw2_.below hb2
  have M2 := M2_.below hb2
  clear M2_ hB2_ hb2 hw2_
  clear hw8
  clear hL
  go_upto_region 6 with (fail)
  refine wp_named ?_
  intro w3 hW3
  have hB3 : Below w.heap.size w w3 := by rw [hW3]; exact hB2
  have hw3 : LaidI w3 := by rw [hW3]; exact hw2
  have M3 := Mem.nil w3
  have hS3 : Below w2.heap.size w2 w3 := by rw [hW3]; exact (Below.refl _ _)
  replace hLA := BsAt.below hLA hS3
  replace hLB := BsAt.below hLB hS3
  clear hS3
  clear hW3
  refine wp_region_after (by kernel_rfl) (by kernel_rfl) ?_
  repeat (go_big_quiet_step ((first | (go_at_call 10; with_reducible exact After.call (lines_c _ _ _ (BsAt.below hLA (After.h _)) A HA.out)) | (go_at_call 10; with_reducible exact After.call (lines_c _ _ _ (BsAt.below hLB (After.h _)) B HB'.out)))))
  refine wpQuiet_nil ?_
  rintro _ ⟨p3, rfl⟩
  obtain ⟨w4, hW4⟩ : ∃ x, x = p3.world := ⟨_, rfl⟩
  have hB4 : Below w.heap.size w w4 := by rw [hW4]; exact below_then hB3 p3.h
  have hw4 : LaidI w4 := by rw [hW4]; exact hw3.below p3.h
  have M4 := M3.below p3.h
  rw [← hW4] at M4
  rw [← hW4]
  replace hLA := BsAt.below hLA p3.h
  rw [← hW4] at hLA
  replace hLB := BsAt.below hLB p3.h
  rw [← hW4] at hLB
  clear hW4
  clear p3
  clear hLA
  clear hLB
  by_cases h40 : n ≤ 40
  · have g40 : ¬ (40 : Int) < (n : Int) := by omega
    have hl40 : l.length ≤ 40 := by rw [← HNL.out]; exact h40
    obtain ⟨s1, s2⟩ := parseA_same (once_same hl40 k)
    rw [← HTD.out, ← HSD.out] at s1 s2
    obtain ⟨E, hE⟩ : ∃ E, E = (parseA S.data.toList).2.2 := ⟨_, rfl⟩
    by_cases h0 : E = 0
    · obtain ⟨im, him⟩ : ∃ im, im = (parseA S.data.toList).1 := ⟨_, rfl⟩
      have hp1 : parseA S.data.toList = (im, 0, 0) := by
        have := parseA_zero (l := S.data.toList) (by rw [← hE, h0]; decide)
        rw [him, ← this, ← h0, hE]
      have hp2 : parseA (A ++ ⟨#[10, 35, 32, 110, 111, 32, 119, 111, 114, 100, 10, 10]⟩ ++ B).data.toList = (im, 0, 0) := by
        have := parseA_zero (l := (A ++ ⟨#[10, 35, 32, 110, 111, 32, 119, 111, 114, 100, 10, 10]⟩ ++ B).data.toList) (by rw [s2, ← hE, h0]; decide)
        rw [him, ← s1, ← this, ← h0, hE, ← s2]
      obtain ⟨hck, hin, -⟩ := parseA_ok hp1
      have hsz := parsed_sized hp1
      obtain ⟨P, hP⟩ : ∃ P : ByteArray, P = ⟨(printI im).toArray⟩ := ⟨_, rfl⟩
      have hp3 : parseA P.data.toList = (im, 0, 0) := by rw [hP]; exact parse_print hck hin
      have hPs : P.size ≤ 500000000 := by
        have := print_small (im := im) hin
        rw [hP, b_size]
        omega
      have HP1 := Lib.hid hp1
      have HP2 := Lib.hid hp2
      have HP3 := Lib.hid hp3
      have HP := Lib.hid hP
      have HPS := Lib.hid hPs
      have HCK := Lib.hid hck
      have HSZ := Lib.hid hsz
      have HFIT := Lib.hid (check_fit hck)
      clear s1 s2 hE h0 him hp1 hp2 hp3 hck hin hsz hP hPs hl40
      go_wp2_with fail
      refine Calls.named ?_
      intro W5 hW5
      have hB5_ : Below w.heap.size w W5 := by rw [hW5]; exact hB4
      have hw5_ : LaidI W5 := by rw [hW5]; exact hw4
      have M5_ := Mem.nil W5
      clear hW5
      refine (parse_im S _ HSS.out hw5_ im 0 0 HP1.out _ _ rfl rfl).mono ?_
      rintro e w5 ⟨c1, d1, c2, d2, rfl, hI, hb5⟩
      have hB5 := below_then hB5_ hb5
      have hw5 := hw5_.below hb5
      have M5 := M5_.below hb5
      clear M5_ hB5_ hb5 hw5_
      replace hI := hI.at
      go_wp2_with fail
      refine Calls.named ?_
      intro W6 hW6
      have hB6_ : Below w.heap.size w W6 := by rw [hW6]; exact (below_al hB5 _)
      have hw6_ : LaidI W6 := by rw [hW6]; exact (hw5.alloc _)
      have M6_ := (M5).new' (w5.heap.size) (by rfl) (.cells #[.slice c1 im.cs.length d1, .slice c2 im.fs.length d2] 27)
      rw [← hW6] at M6_
      have hS6 : Below w5.heap.size w5 W6 := by rw [hW6]; exact (below_al (Below.refl _ _) _)
      have hI_ := ImAt.below hI hS6
      clear hS6 hI
      clear hW6
      have ZZ6_0 := Lib.hid (Mem.lt M6_.1)
      refine (parse_im _ _ HTS.out hw6_ im 0 0 HP2.out _ _ rfl rfl).mono ?_
      rintro e w6 ⟨c3, d3, c4, d4, rfl, hJ, hb6⟩
      have hI := ImAt.below hI_ hb6
      clear hI_
      have hB6 := below_then hB6_ hb6
      have hw6 := hw6_.below hb6
      have M6 := M6_.below hb6
      clear M6_ hB6_ hb6 hw6_
      have c6_0_0 := Mem.cell (v := .slice c1 im.cs.length d1) M6.1 0 rfl
      have c6_0_1 := Mem.cell (v := .slice c2 im.fs.length d2) M6.1 1 rfl
      have z6_0 := Mem.lt M6.1
      replace hJ := hJ.at
      go_wp2_with fail
      refine Calls.named ?_
      intro W7 hW7
      have hB7_ : Below w.heap.size w W7 := by rw [hW7]; exact (below_al hB6 _)
      have hw7_ : LaidI W7 := by rw [hW7]; exact (hw6.alloc _)
      have M7_ := (M6).new' (w6.heap.size) (by rfl) (.cells #[.slice c3 im.cs.length d3, .slice c4 im.fs.length d4] 27)
      rw [← hW7] at M7_
      have hS7 : Below w6.heap.size w6 W7 := by rw [hW7]; exact (below_al (Below.refl _ _) _)
      have hI_ := ImAt.below hI hS7
      have hJ_ := ImAt.below hJ hS7
      clear hS7 hI hJ
      clear hW7
      have ZZ7_0 := Lib.hid (Mem.lt M7_.1)
      have ZZ7_1 := Lib.hid (Mem.lt M7_.2.1)
      clear c6_0_0 c6_0_1 z6_0
      refine (print_im _ _ _ HSZ.out _ hw7_ hI_ P HP.out).mono ?_
      rintro e w7 ⟨rfl, hb7⟩
      have hI := ImAt.below hI_ hb7
      have hJ := ImAt.below hJ_ hb7
      clear hI_ hJ_
      have hB7 := below_then hB7_ hb7
      have hw7 := hw7_.below hb7
      have M7 := M7_.below hb7
      clear M7_ hB7_ hb7 hw7_
      have c7_0_0 := Mem.cell (v := .slice c3 im.cs.length d3) M7.1 0 rfl
      have c7_0_1 := Mem.cell (v := .slice c4 im.fs.length d4) M7.1 1 rfl
      have z7_0 := Mem.lt M7.1
      have c7_1_0 := Mem.cell (v := .slice c1 im.cs.length d1) M7.2.1 0 rfl
      have c7_1_1 := Mem.cell (v := .slice c2 im.fs.length d2) M7.2.1 1 rfl
      have z7_1 := Mem.lt M7.2.1
      go_wp2_with fail
      refine Calls.named ?_
      intro W8 hW8
      have hB8_ : Below w.heap.size w W8 := by rw [hW8]; exact hB7
      have hw8_ : LaidI W8 := by rw [hW8]; exact hw7
      have M8_ := M7
      rw [← hW8] at M8_
      have hS8 : Below w7.heap.size w7 W8 := by rw [hW8]; exact (Below.refl _ _)
      have hI_ := ImAt.below hI hS8
      have hJ_ := ImAt.below hJ hS8
      clear hS8 hI hJ
      clear hW8
      have ZZ8_0 := Lib.hid (Mem.lt M8_.1)
      have ZZ8_1 := Lib.hid (Mem.lt M8_.2.1)
      clear c7_0_0 c7_0_1 z7_0 c7_1_0 c7_1_1 z7_1
      refine (parse_im P _ HPS.out hw8_ im 0 0 HP3.out _ _ rfl rfl).mono ?_
      rintro e w8 ⟨c5, d5, c6, d6, rfl, hG, hb8⟩
      have hI := ImAt.below hI_ hb8
      have hJ := ImAt.below hJ_ hb8
      clear hI_ hJ_
      have hB8 := below_then hB8_ hb8
      have hw8 := hw8_.below hb8
      have M8 := M8_.below hb8
      clear M8_ hB8_ hb8 hw8_
      have c8_0_0 := Mem.cell (v := .slice c3 im.cs.length d3) M8.1 0 rfl
      have c8_0_1 := Mem.cell (v := .slice c4 im.fs.length d4) M8.1 1 rfl
      have z8_0 := Mem.lt M8.1
      have c8_1_0 := Mem.cell (v := .slice c1 im.cs.length d1) M8.2.1 0 rfl
      have c8_1_1 := Mem.cell (v := .slice c2 im.fs.length d2) M8.2.1 1 rfl
      have z8_1 := Mem.lt M8.2.1
      replace hG := hG.at
      go_wp2_with fail
      refine Calls.named ?_
      intro W9 hW9
      have hB9_ : Below w.heap.size w W9 := by rw [hW9]; exact (below_al hB8 _)
      have hw9_ : LaidI W9 := by rw [hW9]; exact (hw8.alloc _)
      have M9_ := (M8).new' (w8.heap.size) (by rfl) (.cells #[.slice c5 im.cs.length d5, .slice c6 im.fs.length d6] 27)
      rw [← hW9] at M9_
      have hS9 : Below w8.heap.size w8 W9 := by rw [hW9]; exact (below_al (Below.refl _ _) _)
      have hI_ := ImAt.below hI hS9
      have hJ_ := ImAt.below hJ hS9
      have hG_ := ImAt.below hG hS9
      clear hS9 hI hJ hG
      clear hW9
      have ZZ9_0 := Lib.hid (Mem.lt M9_.1)
      have ZZ9_1 := Lib.hid (Mem.lt M9_.2.1)
      have ZZ9_2 := Lib.hid (Mem.lt M9_.2.2.1)
      clear c8_0_0 c8_0_1 z8_0 c8_1_0 c8_1_1 z8_1
      refine (check_im _ _ _ HSZ.out _ hw9_ hI_ 0 HCK.out).mono ?_
      rintro e w9 ⟨rfl, hb9⟩
      have hI := ImAt.below hI_ hb9
      have hJ := ImAt.below hJ_ hb9
      have hG := ImAt.below hG_ hb9
      clear hI_ hJ_ hG_
      have hB9 := below_then hB9_ hb9
      have hw9 := hw9_.below hb9
      have M9 := M9_.below hb9
      clear M9_ hB9_ hb9 hw9_
      have c9_0_0 := Mem.cell (v := .slice c5 im.cs.length d5) M9.1 0 rfl
      have c9_0_1 := Mem.cell (v := .slice c6 im.fs.length d6) M9.1 1 rfl
      have z9_0 := Mem.lt M9.1
      have c9_1_0 := Mem.cell (v := .slice c3 im.cs.length d3) M9.2.1 0 rfl
      have c9_1_1 := Mem.cell (v := .slice c4 im.fs.length d4) M9.2.1 1 rfl
      have z9_1 := Mem.lt M9.2.1
      have c9_2_0 := Mem.cell (v := .slice c1 im.cs.length d1) M9.2.2.1 0 rfl
      have c9_2_1 := Mem.cell (v := .slice c2 im.fs.length d2) M9.2.2.1 1 rfl
      have z9_2 := Mem.lt M9.2.2.1
      go_wp2_with fail
      refine Calls.named ?_
      intro W10 hW10
      have hB10_ : Below w.heap.size w W10 := by rw [hW10]; exact hB9
      have hw10_ : LaidI W10 := by rw [hW10]; exact hw9
      have M10_ := M9
      rw [← hW10] at M10_
      have hS10 : Below w9.heap.size w9 W10 := by rw [hW10]; exact (Below.refl _ _)
      have hI_ := ImAt.below hI hS10
      have hJ_ := ImAt.below hJ hS10
      have hG_ := ImAt.below hG hS10
      clear hS10 hI hJ hG
      clear hW10
      have ZZ10_0 := Lib.hid (Mem.lt M10_.1)
      have ZZ10_1 := Lib.hid (Mem.lt M10_.2.1)
      have ZZ10_2 := Lib.hid (Mem.lt M10_.2.2.1)
      clear c9_0_0 c9_0_1 z9_0 c9_1_0 c9_1_1 z9_1 c9_2_0 c9_2_1 z9_2
      refine (same_im _ _ _ _ _ _ HFIT.out HFIT.out _ hI_ hJ_ true (decide_eq_true rfl)).mono ?_
      rintro e w10 ⟨rfl, hb10⟩
      have hI := ImAt.below hI_ hb10
      have hJ := ImAt.below hJ_ hb10
      have hG := ImAt.below hG_ hb10
      clear hI_ hJ_ hG_
      have hB10 := below_then hB10_ hb10
      have hw10 := hw10_.below hb10
      have M10 := M10_.below hb10
      clear M10_ hB10_ hb10 hw10_
      have c10_0_0 := Mem.cell (v := .slice c5 im.cs.length d5) M10.1 0 rfl
      have c10_0_1 := Mem.cell (v := .slice c6 im.fs.length d6) M10.1 1 rfl
      have z10_0 := Mem.lt M10.1
      have c10_1_0 := Mem.cell (v := .slice c3 im.cs.length d3) M10.2.1 0 rfl
      have c10_1_1 := Mem.cell (v := .slice c4 im.fs.length d4) M10.2.1 1 rfl
      have z10_1 := Mem.lt M10.2.1
      have c10_2_0 := Mem.cell (v := .slice c1 im.cs.length d1) M10.2.2.1 0 rfl
      have c10_2_1 := Mem.cell (v := .slice c2 im.fs.length d2) M10.2.2.1 1 rfl
      have z10_2 := Mem.lt M10.2.2.1
      go_wp2_with fail
      refine Calls.named ?_
      intro W11 hW11
      have hB11_ : Below w.heap.size w W11 := by rw [hW11]; exact hB10
      have hw11_ : LaidI W11 := by rw [hW11]; exact hw10
      have M11_ := M10
      rw [← hW11] at M11_
      have hS11 : Below w10.heap.size w10 W11 := by rw [hW11]; exact (Below.refl _ _)
      have hI_ := ImAt.below hI hS11
      have hJ_ := ImAt.below hJ hS11
      have hG_ := ImAt.below hG hS11
      clear hS11 hI hJ hG
      clear hW11
      have ZZ11_0 := Lib.hid (Mem.lt M11_.1)
      have ZZ11_1 := Lib.hid (Mem.lt M11_.2.1)
      have ZZ11_2 := Lib.hid (Mem.lt M11_.2.2.1)
      clear c10_0_0 c10_0_1 z10_0 c10_1_0 c10_1_1 z10_1 c10_2_0 c10_2_1 z10_2
      refine (same_im _ _ _ _ _ _ HFIT.out HFIT.out _ hG_ hI_ true (decide_eq_true rfl)).mono ?_
      rintro e w11 ⟨rfl, hb11⟩
      have hI := ImAt.below hI_ hb11
      have hJ := ImAt.below hJ_ hb11
      have hG := ImAt.below hG_ hb11
      clear hI_ hJ_ hG_
      have hB11 := below_then hB11_ hb11
      have hw11 := hw11_.below hb11
      have M11 := M11_.below hb11
      clear M11_ hB11_ hb11 hw11_
      have c11_0_0 := Mem.cell (v := .slice c5 im.cs.length d5) M11.1 0 rfl
      have c11_0_1 := Mem.cell (v := .slice c6 im.fs.length d6) M11.1 1 rfl
      have z11_0 := Mem.lt M11.1
      have c11_1_0 := Mem.cell (v := .slice c3 im.cs.length d3) M11.2.1 0 rfl
      have c11_1_1 := Mem.cell (v := .slice c4 im.fs.length d4) M11.2.1 1 rfl
      have z11_1 := Mem.lt M11.2.1
      have c11_2_0 := Mem.cell (v := .slice c1 im.cs.length d1) M11.2.2.1 0 rfl
      have c11_2_1 := Mem.cell (v := .slice c2 im.fs.length d2) M11.2.2.1 1 rfl
      have z11_2 := Mem.lt M11.2.2.1
      go_wp2_with fail
      go_ret
      exact ⟨rfl, hB11⟩
    · have i1 : (parseA S.data.toList).1 = im0 := parseA_err (by rw [← hE]; exact h0)
      obtain ⟨q1, hq1⟩ : ∃ q, q = (parseA S.data.toList).2.1 := ⟨_, rfl⟩
      obtain ⟨q2, hq2⟩ : ∃ q, q = (parseA (A ++ ⟨#[10, 35, 32, 110, 111, 32, 119, 111, 114, 100, 10, 10]⟩ ++ B).data.toList).2.1 := ⟨_, rfl⟩
      have hp1 : parseA S.data.toList = (im0, q1, E) := by rw [← i1, hq1, hE]
      have hp2 : parseA (A ++ ⟨#[10, 35, 32, 110, 111, 32, 119, 111, 114, 100, 10, 10]⟩ ++ B).data.toList = (im0, q2, E) := by rw [← i1, ← s1, hq2, hE, ← s2]
      have HP1 := Lib.hid hp1
      have HP2 := Lib.hid hp2
      have z3 : (E == 0) = false := by simpa using h0
      clear s1 s2 hE i1 hq1 hq2 hp1 hp2 hl40
      go_wp2_with fail
      refine Calls.named ?_
      intro W5 hW5
      have hB5_ : Below w.heap.size w W5 := by rw [hW5]; exact hB4
      have hw5_ : LaidI W5 := by rw [hW5]; exact hw4
      have M5_ := Mem.nil W5
      clear hW5
      refine (parse_im S _ HSS.out hw5_ im0 q1 E HP1.out 0 0 rfl rfl).mono ?_
      rintro e w5 ⟨c1, d1, c2, d2, rfl, -, hb5⟩
      have hB5 := below_then hB5_ hb5
      have hw5 := hw5_.below hb5
      have M5 := M5_.below hb5
      clear M5_ hB5_ hb5 hw5_
      go_wp2_with fail
      refine Calls.named ?_
      intro W6 hW6
      have hB6_ : Below w.heap.size w W6 := by rw [hW6]; exact (below_al hB5 _)
      have hw6_ : LaidI W6 := by rw [hW6]; exact (hw5.alloc _)
      have M6_ := (M5).new' (w5.heap.size) (by rfl) (.cells #[.slice c1 0 d1, .slice c2 0 d2] 27)
      rw [← hW6] at M6_
      clear hW6
      have ZZ6_0 := Lib.hid (Mem.lt M6_.1)
      refine (parse_im _ _ HTS.out hw6_ im0 q2 E HP2.out 0 0 rfl rfl).mono ?_
      rintro e w6 ⟨c3, d3, c4, d4, rfl, -, hb6⟩
      have hB6 := below_then hB6_ hb6
      have hw6 := hw6_.below hb6
      have M6 := M6_.below hb6
      clear M6_ hB6_ hb6 hw6_
      have c6_0_0 := Mem.cell (v := .slice c1 0 d1) M6.1 0 rfl
      have c6_0_1 := Mem.cell (v := .slice c2 0 d2) M6.1 1 rfl
      have z6_0 := Mem.lt M6.1
      go_wp2_with fail
      go_ret
      exact ⟨rfl, (below_al hB6 _)⟩
  · have g40 : (40 : Int) < (n : Int) := by omega
    go_wp2_with fail
    go_ret
    exact ⟨rfl, hB4⟩
end Go.Proofs.YtiggallcoocdaaaGreatDoor
