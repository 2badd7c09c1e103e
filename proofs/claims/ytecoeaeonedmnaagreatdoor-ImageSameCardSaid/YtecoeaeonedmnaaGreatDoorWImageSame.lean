/- Two programs that may be are the same just if they are put as the same bytes; with one thing turned they are not. The walk: the law answers true; no memory that was there is turned. Conditions: the listed package variables hold what the program's text lays; every other argument of the parameter types. -/
import Derived.Test.YtecoeaeonedmnaaGreatDoorZ6
namespace Go.Proofs.YtecoeaeonedmnaaGreatDoor
open Go.RowKit
set_option maxRecDepth 100000 in
set_option maxHeartbeats 8000000 in
theorem imageSame_walk (v : Value) (ll : List (List UInt8)) (u : Value) (lm : List (List UInt8)) (k : Int) (hk : 0 ≤ k ∧ k ≤ 65535) (w : World) (hL : LsAt w v ll) (hK : LsAt w u lm) (hw : LaidI w) :
    Calls Tryz.prog 5 #[v, u, .int .u16 k] w fun e w' => e = .returned (.bool true) ∧ Below w.heap.size w w' := by
  obtain ⟨vo, vc, rfl⟩ := hL.slice
  obtain ⟨uo, uc, rfl⟩ := hK.slice
  obtain ⟨kk, rfl⟩ : ∃ n : Nat, k = n := ⟨k.toNat, by omega⟩
  have hk2 : kk < 65536 := by omega
  clear hk
  have hL0 := Lib.hid hL
  go_enter Tryz.func5, Tryz.ntmps5
  have hB0 := Below.refl w.heap.size w
  have M0 := Mem.nil w
  have hw0 := hw
  go_wp2_with fail
  refine Calls.named ?_
  intro W1 hW1
  have hB1_ : Below w.heap.size w W1 := by rw [hW1]; exact hB0
  have hw1_ : LaidI W1 := by rw [hW1]; exact hw
  have M1_ := Mem.nil W1
  have hS1 : Below w.heap.size w W1 := by rw [hW1]; exact (Below.refl _ _)
  have hL_ := LsAt.below hL hS1
  have hK_ := LsAt.below hK hS1
  clear hS1 hL hK
  clear hW1
  refine (examples_any _ hw1_).mono ?_
  rintro e w1 ⟨rfl, hb1⟩
  have hL := LsAt.below hL_ hb1
  have hK := LsAt.below hK_ hb1
  clear hL_ hK_
  have hB1 := below_then hB1_ hb1
  have hw1 := hw1_.below hb1
  have M1 := M1_.below hb1
  clear M1_ hB1_ hb1 hw1_
  go_wp2_with fail
  refine Calls.named ?_
  intro W2 hW2
  have hB2_ : Below w.heap.size w W2 := by rw [hW2]; exact hB1
  have hw2_ : LaidI W2 := by rw [hW2]; exact hw1
  have M2_ := Mem.nil W2
  have hS2 : Below w1.heap.size w1 W2 := by rw [hW2]; exact (Below.refl _ _)
  have hL_ := LsAt.below hL hS2
  have hK_ := LsAt.below hK hS2
  clear hS2 hL hK
  clear hW2
  refine (made_c _ _ _ hL_).mono ?_
  rintro e w2 ⟨fa, ca, xa, pa, ya, rfl, hA, hb2⟩
  have hL := LsAt.below hL_ hb2
  have hK := LsAt.below hK_ hb2
  clear hL_ hK_
  have hB2 := below_then hB2_ hb2
  have hw2 := hw2_.below hb2
  have M2 := M2_.below hb2
  clear M2_ hB2_ hb2 hw2_
  replace hA := Old.mk hA
  go_wp2_with fail
  refine Calls.named ?_
  intro W3 hW3
  have hB3_ : Below w.heap.size w W3 := by rw [hW3]; exact (below_al hB2 _)
  have hw3_ : LaidI W3 := by rw [hW3]; exact (hw2.alloc _)
  have M3_ := (M2).new' (w2.heap.size) (by rfl) (.cells #[.slice ca 16 xa, .slice pa 3 ya] 25)
  rw [← hW3] at M3_
  have hS3 : Below w2.heap.size w2 W3 := by rw [hW3]; exact (below_al (Below.refl _ _) _)
  have hL_ := LsAt.below hL hS3
  have hK_ := LsAt.below hK hS3
  have hA_ := Old.below hA hS3
  clear hS3 hL hK hA
  clear hW3
  have ZZ3_0 := Lib.hid (Mem.lt M3_.1)
  refine (made_c _ _ _ hK_).mono ?_
  rintro e w3 ⟨fb, cb, xb, pb, yb, rfl, hB, hb3⟩
  have hL := LsAt.below hL_ hb3
  have hK := LsAt.below hK_ hb3
  have hA := Old.below hA_ hb3
  clear hL_ hK_ hA_
  have hB3 := below_then hB3_ hb3
  have hw3 := hw3_.below hb3
  have M3 := M3_.below hb3
  clear M3_ hB3_ hb3 hw3_
  have c3_0_0 := Mem.cell (v := .slice ca 16 xa) M3.1 0 rfl
  have c3_0_1 := Mem.cell (v := .slice pa 3 ya) M3.1 1 rfl
  have z3_0 := Mem.lt M3.1
  clear hK
  replace hB := Old.mk hB
  go_wp2_with fail
  refine Calls.named ?_
  intro W4 hW4
  have hB4_ : Below w.heap.size w W4 := by rw [hW4]; exact (below_al hB3 _)
  have hw4_ : LaidI W4 := by rw [hW4]; exact (hw3.alloc _)
  have M4_ := (M3).new' (w3.heap.size) (by rfl) (.cells #[.slice cb 16 xb, .slice pb 3 yb] 25)
  rw [← hW4] at M4_
  have hS4 : Below w3.heap.size w3 W4 := by rw [hW4]; exact (below_al (Below.refl _ _) _)
  have hL_ := LsAt.below hL hS4
  have hA_ := Old.below hA hS4
  have hB_ := Old.below hB hS4
  clear hS4 hL hA hB
  clear hW4
  have ZZ4_0 := Lib.hid (Mem.lt M4_.1)
  have ZZ4_1 := Lib.hid (Mem.lt M4_.2.1)
  clear c3_0_0 c3_0_1 z3_0
  refine (made_c _ _ _ hL_).mono ?_
  rintro e w4 ⟨fc, cc, xc, pc, yc, rfl, hC, hb4⟩
  have hL := LsAt.below hL_ hb4
  have hA := Old.below hA_ hb4
  have hB := Old.below hB_ hb4
  clear hL_ hA_ hB_
  have hB4 := below_then hB4_ hb4
  have hw4 := hw4_.below hb4
  have M4 := M4_.below hb4
  clear M4_ hB4_ hb4 hw4_
  have c4_0_0 := Mem.cell (v := .slice cb 16 xb) M4.1 0 rfl
  have c4_0_1 := Mem.cell (v := .slice pb 3 yb) M4.1 1 rfl
  have z4_0 := Mem.lt M4.1
  have c4_1_0 := Mem.cell (v := .slice ca 16 xa) M4.2.1 0 rfl
  have c4_1_1 := Mem.cell (v := .slice pa 3 ya) M4.2.1 1 rfl
  have z4_1 := Mem.lt M4.2.1
  go_upto_region 7 with (fail)
  refine wp_named ?_
  intro w5 hW5
  have hB5 : Below w.heap.size w w5 := by rw [hW5]; exact (below_al hB4 _)
  have hw5 : LaidI w5 := by rw [hW5]; exact (hw4.alloc _)
  have M5 := (M4).new' (w4.heap.size) (by rfl) (.cells #[.slice cc 16 xc, .slice pc 3 yc] 25)
  rw [← hW5] at M5
  have hS5 : Below w4.heap.size w4 w5 := by rw [hW5]; exact (below_al (Below.refl _ _) _)
  replace hL := LsAt.below hL hS5
  replace hA := Old.below hA hS5
  replace hB := Old.below hB hS5
  replace hC := MadeV.below hC hS5
  clear hS5
  clear c4_0_0 c4_0_1 z4_0 c4_1_0 c4_1_1 z4_1
  clear hW5
  have c5_0_0 := Mem.cell (v := .slice cc 16 xc) M5.1 0 rfl
  have c5_0_1 := Mem.cell (v := .slice pc 3 yc) M5.1 1 rfl
  have z5_0 := Mem.lt M5.1
  have c5_1_0 := Mem.cell (v := .slice cb 16 xb) M5.2.1 0 rfl
  have c5_1_1 := Mem.cell (v := .slice pb 3 yb) M5.2.1 1 rfl
  have z5_1 := Mem.lt M5.2.1
  have c5_2_0 := Mem.cell (v := .slice ca 16 xa) M5.2.2.1 0 rfl
  have c5_2_1 := Mem.cell (v := .slice pa 3 ya) M5.2.2.1 1 rfl
  have z5_2 := Mem.lt M5.2.2.1
  obtain ⟨q, hq⟩ : ∃ q, q = kk % 3 := ⟨_, rfl⟩
  have hq3 : q < 3 := by omega
  have eq1 : (kk : Int) % 3 = (q : Int) := by omega
  have gq : (0 : Int) ≤ (q : Int) := by omega
  have gq3 : (q : Int) < 3 := by omega
  obtain ⟨b, g, oc, len, rfl, hb1, hg0, hg1, hgT, d2, hl0, hl1, hcells, hset⟩ := hC.code hq3
  obtain ⟨r, hr⟩ : ∃ r, r = kk / 3 := ⟨_, rfl⟩
  have er1 : (kk : Int) / 3 = (r : Int) := by omega
  obtain ⟨j, hj⟩ : ∃ j, j = r % len := ⟨_, rfl⟩
  have hjl : j < len := by rw [hj]; exact Nat.mod_lt _ hl0
  have ej1 : (r : Int) % (len : Int) = (j : Int) := by rw [hj]; rfl
  obtain ⟨a9, ha9⟩ : ∃ a : Nat, a = 60000 + kk % 9 := ⟨_, rfl⟩
  have e9 : 60000 + (kk : Int) % 9 = (a9 : Int) := by omega
  obtain ⟨cur, hcur⟩ := hgT
  obtain ⟨u0, hu0⟩ := hcells (j * 2) (by omega)
  obtain ⟨u1, hu1⟩ := hcells (j * 2 + 1) (by omega)
  have hfr := fun m => Mem.free hcur m
  have hbk1 := setCell_block (i := j * 2) hcur (.int .i64 1)
  have hu1' : (w5.setCell ⟨g, j * 2, none⟩ (.int .i64 1)).cell? ⟨g, j * 2 + 1, none⟩ = some u1 := by
    obtain ⟨T1, c1, f1, h1, h2⟩ : ∃ (T1 : TypeId) (c1 : Array Value) (f1 : Nat × Nat), w5.heap[g]? = some (.cells c1 T1 f1) ∧ c1[j * 2 + 1]? = some u1 := ⟨_, cur, _, hcur, by
      have h3 := hu1
      unfold World.cell? at h3
      rw [hcur] at h3
      simpa using h3⟩
    exact Mem.cell (setCell_block h1 _) (j * 2 + 1) (by rw [Array.getElem?_setIfInBounds_ne (by omega)]; exact h2)
  have hfr1 := fun m => Mem.free hbk1 m
  clear hq hr hj ha9
  go_upto_region 10 with (fail)
  refine wp_named ?_
  intro w6 hW6
  have hE6 : w6 = w5.setCells g (j * 2) (orow (1, (a9 : Int))) := hW6
  obtain ⟨hCV, fs', hCF, hfl, hff, hbig⟩ := hset j hjl (1, (a9 : Int)) (push_right (by omega) (by omega)) (by simp only; omega)
  rw [← hE6] at hCV hCF
  have hz1 := ZZ4_0.out
  have hz2 := ZZ4_1.out
  have hz0 := hB2.size
  have hB6 : Below w.heap.size w w6 := by rw [hE6]; exact below_setCells hB5 (by omega) _ _
  have hw6 : LaidI w6 := hw.below hB6
  have M6 : Mem w6 [(w4.heap.size, .cells #[.slice cc 16 xc, .slice (some ⟨b, 0, none⟩) 3 yc] 25), (w3.heap.size, .cells #[.slice cb 16 xb, .slice pb 3 yb] 25), (w2.heap.size, .cells #[.slice ca 16 xa, .slice pa 3 ya] 25)] := by
    rw [hE6]
    exact ⟨mem_set hcur M5.1 (by decide) _ _, mem_set hcur M5.2.1 (by decide) _ _, mem_set hcur M5.2.2.1 (by decide) _ _, trivial⟩
  replace hA := hA.set (b := g) (by omega) (j * 2) (orow (1, (a9 : Int)))
  rw [← hE6] at hA
  replace hB := hB.set (b := g) (by omega) (j * 2) (orow (1, (a9 : Int)))
  rw [← hE6] at hB
  have hL6 : LsAt w6 (.slice vo ll.length vc) ll := hL0.out.below hB6
  have hC6 : Old (PairAt (.slice cc 16 xc) (.slice (some ⟨b, 0, none⟩) 3 yc) fs') w6.heap.size w6 := Old.mk ⟨hCV, hCF⟩
  clear hL hC hW6 hE6 hCV hCF hset hcells hcur hfr hbk1 hu1' hfr1 hu0 hu1 d2 hb1 eq1 er1 ej1 gq gq3 M5 hB5 hw5
  have c6_0_0 := Mem.cell (v := .slice cc 16 xc) M6.1 0 rfl
  have c6_0_1 := Mem.cell (v := .slice (some ⟨b, 0, none⟩) 3 yc) M6.1 1 rfl
  have z6_0 := Mem.lt M6.1
  have c6_1_0 := Mem.cell (v := .slice cb 16 xb) M6.2.1 0 rfl
  have c6_1_1 := Mem.cell (v := .slice pb 3 yb) M6.2.1 1 rfl
  have z6_1 := Mem.lt M6.2.1
  have c6_2_0 := Mem.cell (v := .slice ca 16 xa) M6.2.2.1 0 rfl
  have c6_2_1 := Mem.cell (v := .slice pa 3 ya) M6.2.2.1 1 rfl
  have z6_2 := Mem.lt M6.2.2.1
  go_wp2_with fail
  refine Calls.named ?_
  intro W7 hW7
  have hB7_ : Below w.heap.size w W7 := by rw [hW7]; exact hB6
  have hw7_ : LaidI W7 := by rw [hW7]; exact hw6
  have M7_ := M6
  rw [← hW7] at M7_
  have hS7 : Below w6.heap.size w6 W7 := by rw [hW7]; exact (Below.refl _ _)
  have hL6_ := LsAt.below hL6 hS7
  have hA_ := Old.below hA hS7
  have hB_ := Old.below hB hS7
  have hC6_ := Old.below hC6 hS7
  clear hS7 hL6 hA hB hC6
  have YY7 : Hid (w6.heap.size ≤ W7.heap.size) := Lib.hid (by rw [hW7]; first | exact Nat.le_refl _ | (simp; done) | (simp; omega))
  clear hW7
  have ZZ7_0 := Lib.hid (Mem.lt M7_.1)
  have ZZ7_1 := Lib.hid (Mem.lt M7_.2.1)
  have ZZ7_2 := Lib.hid (Mem.lt M7_.2.2.1)
  clear c6_0_0 c6_0_1 z6_0 c6_1_0 c6_1_1 z6_1 c6_2_0 c6_2_1 z6_2
  refine (made_c _ _ _ hL6_).mono ?_
  rintro e w7 ⟨fd, cd, xd, pd, yd, rfl, hD, hb7⟩
  have hL6 := LsAt.below hL6_ hb7
  have hA := Old.below hA_ hb7
  have hB := Old.below hB_ hb7
  have hC6 := Old.below hC6_ hb7
  clear hL6_ hA_ hB_ hC6_
  have hB7 := below_then hB7_ hb7
  have hw7 := hw7_.below hb7
  have M7 := M7_.below hb7
  clear M7_ hB7_ hb7 hw7_
  have c7_0_0 := Mem.cell (v := .slice cc 16 xc) M7.1 0 rfl
  have c7_0_1 := Mem.cell (v := .slice (some ⟨b, 0, none⟩) 3 yc) M7.1 1 rfl
  have z7_0 := Mem.lt M7.1
  have c7_1_0 := Mem.cell (v := .slice cb 16 xb) M7.2.1 0 rfl
  have c7_1_1 := Mem.cell (v := .slice pb 3 yb) M7.2.1 1 rfl
  have z7_1 := Mem.lt M7.2.1
  have c7_2_0 := Mem.cell (v := .slice ca 16 xa) M7.2.2.1 0 rfl
  have c7_2_1 := Mem.cell (v := .slice pa 3 ya) M7.2.2.1 1 rfl
  have z7_2 := Mem.lt M7.2.2.1
  clear hL6
  go_upto_region 11 with (fail)
  refine wp_named ?_
  intro w8 hW8
  have hB8 : Below w.heap.size w w8 := by rw [hW8]; exact (below_al hB7 _)
  have hw8 : LaidI w8 := by rw [hW8]; exact (hw7.alloc _)
  have M8 := (M7).new' (w7.heap.size) (by rfl) (.cells #[.slice cd 16 xd, .slice pd 3 yd] 25)
  rw [← hW8] at M8
  have hS8 : Below w7.heap.size w7 w8 := by rw [hW8]; exact (below_al (Below.refl _ _) _)
  replace hA := Old.below hA hS8
  replace hB := Old.below hB hS8
  replace hC6 := Old.below hC6 hS8
  replace hD := MadeV.below hD hS8
  clear hS8
  clear c7_0_0 c7_0_1 z7_0 c7_1_0 c7_1_1 z7_1 c7_2_0 c7_2_1 z7_2
  clear hW8
  have c8_0_0 := Mem.cell (v := .slice cd 16 xd) M8.1 0 rfl
  have c8_0_1 := Mem.cell (v := .slice pd 3 yd) M8.1 1 rfl
  have z8_0 := Mem.lt M8.1
  have c8_1_0 := Mem.cell (v := .slice cc 16 xc) M8.2.1 0 rfl
  have c8_1_1 := Mem.cell (v := .slice (some ⟨b, 0, none⟩) 3 yc) M8.2.1 1 rfl
  have z8_1 := Mem.lt M8.2.1
  have c8_2_0 := Mem.cell (v := .slice cb 16 xb) M8.2.2.1 0 rfl
  have c8_2_1 := Mem.cell (v := .slice pb 3 yb) M8.2.2.1 1 rfl
  have z8_2 := Mem.lt M8.2.2.1
  have c8_3_0 := Mem.cell (v := .slice ca 16 xa) M8.2.2.2.1 0 rfl
  have c8_3_1 := Mem.cell (v := .slice pa 3 ya) M8.2.2.2.1 1 rfl
  have z8_3 := Mem.lt M8.2.2.2.1
  obtain ⟨p, hp⟩ : ∃ p, p = kk % 8 := ⟨_, rfl⟩
  have hp8 : p < 8 := by omega
  have hpl : p < madeCs.length := by show p < 16; omega
  have ep1 : (kk : Int) % 8 = (p : Int) := by omega
  have gp : (0 : Int) ≤ (p : Int) := by omega
  have gp8 : (p : Int) < 16 := by omega
  obtain ⟨h, rfl, hh0, hh1, ⟨cur, hcur⟩, ⟨u2, hu2⟩, hDV, hDF⟩ := hD.const (i := p) (by omega)
  have hfr := fun m => Mem.free hcur m
  clear hp
  go_upto_region 12 with (fail)
  refine wp_named ?_
  intro w9 hW9
  have hE9 : w9 = w8.setCells h (p * 5 + 1) [.int .i64 77] := hW9
  replace hDV : VsAt w9 (.slice (some ⟨h, 0, none⟩) 16 xd) (madeCs.set p (vN (madeCs[p]'hpl) 77)) := by rw [hE9]; exact hDV
  replace hDF : FsAt w9 (.slice pd 3 yd) fd := by rw [hE9]; exact hDF
  have hy0 := ZZ7_0.out
  have hy3 := YY7.out
  have hy1 := ZZ7_1.out
  have hy2 := ZZ7_2.out
  have hB9 : Below w.heap.size w w9 := by rw [hE9]; exact below_setCells hB8 (by omega) _ _
  have hw9 : LaidI w9 := hw.below hB9
  have M9 : Mem w9 [(w7.heap.size, .cells #[.slice (some ⟨h, 0, none⟩) 16 xd, .slice pd 3 yd] 25), (w4.heap.size, .cells #[.slice cc 16 xc, .slice (some ⟨b, 0, none⟩) 3 yc] 25), (w3.heap.size, .cells #[.slice cb 16 xb, .slice pb 3 yb] 25), (w2.heap.size, .cells #[.slice ca 16 xa, .slice pa 3 ya] 25)] := by
    rw [hE9]
    exact ⟨mem_set hcur M8.1 (by decide) _ _, mem_set hcur M8.2.1 (by decide) _ _, mem_set hcur M8.2.2.1 (by decide) _ _, mem_set hcur M8.2.2.2.1 (by decide) _ _, trivial⟩
  replace hA := hA.set (b := h) (by omega) (p * 5 + 1) [.int .i64 77]
  replace hB := hB.set (b := h) (by omega) (p * 5 + 1) [.int .i64 77]
  replace hC6 := hC6.set (b := h) (by omega) (p * 5 + 1) [.int .i64 77]
  rw [← hE9] at hA hB hC6
  replace hA := hA.get (fun _ _ h => h.below)
  replace hB := hB.get (fun _ _ h => h.below)
  obtain ⟨hCV, hCF⟩ := hC6.get PairAt.keep
  have hDl := hD.len
  have hDg := good_codes hD.good
  clear hC6 hD hW9 hE9 hcur hfr hu2 M8 hB8 hw8
  obtain ⟨PA, hPA⟩ : ∃ s : ByteArray, s = ⟨(Im.put ⟨madeCs, fa⟩).toArray⟩ := ⟨_, rfl⟩
  obtain ⟨PB, hPB⟩ : ∃ s : ByteArray, s = ⟨(Im.put ⟨madeCs, fb⟩).toArray⟩ := ⟨_, rfl⟩
  obtain ⟨PC, hPC⟩ : ∃ s : ByteArray, s = ⟨(Im.put ⟨madeCs, fs'⟩).toArray⟩ := ⟨_, rfl⟩
  have ka := made_check hA.len hA.good
  have kb := made_check hB.len hB.good
  have kc := fine_check hfl hff
  have hne : Im.mk madeCs fa ≠ Im.mk madeCs fs' := fun e => op_ne hA.good hbig (by injection e)
  have hnd : Im.mk madeCs fa ≠ Im.mk (madeCs.set p (vN (madeCs[p]'hpl) 77)) fd := fun e => const_ne (i := p) (by omega) (madeCs[p]'hpl) (by injection e)
  obtain ⟨E, hEe⟩ : ∃ E, decide (Im.mk madeCs fa = Im.mk madeCs fb) = E := ⟨_, rfl⟩
  have sAA := isame_c _ _ _ _ _ _ _ _ w9 hA.vs hA.fns hA.vs hA.fns rfl hA.len rfl hA.len (good_codes hA.good) (good_codes hA.good)
  have sAB := isame_c _ _ _ _ _ _ _ _ w9 hA.vs hA.fns hB.vs hB.fns rfl hA.len rfl hB.len (good_codes hA.good) (good_codes hB.good)
  have sAC := isame_c _ _ _ _ _ _ _ _ w9 hA.vs hA.fns hCV hCF rfl hA.len rfl hfl (good_codes hA.good) (fine_codes hff)
  have sAD := isame_c _ _ _ _ _ _ _ _ w9 hA.vs hA.fns hDV hDF rfl hA.len (by rw [List.length_set]; rfl) hDl (good_codes hA.good) hDg
  replace sAA := fun W hb => sAA W hb true (decide_eq_true rfl)
  replace sAB := fun W hb => sAB W hb E hEe
  replace sAC := fun W hb => sAC W hb false (decide_eq_false hne)
  replace sAD := fun W hb => sAD W hb false (decide_eq_false hnd)
  have pA := fun W hb => iput_c _ _ _ w9 hw9 hA.vs hA.fns ka W hb PA hPA
  have pB := fun W hb => iput_c _ _ _ w9 hw9 hB.vs hB.fns kb W hb PB hPB
  have pC := fun W hb => iput_c _ _ _ w9 hw9 hCV hCF kc W hb PC hPC
  have hab : (PA.toList == PB.toList) = E := by rw [hPA, hPB, str_eq, same_put ka kb consts_in consts_in, hEe]
  have hac : (PA.toList == PC.toList) = false := by rw [hPA, hPC, str_eq, same_put ka kc consts_in consts_in, decide_eq_false hne]
  clear hPA hPB hPC ka kb kc hne hnd hEe hA hB hCV hCF hDV hDF hDl hDg hbig hff hfl
  have c9_0_0 := Mem.cell (v := .slice (some ⟨h, 0, none⟩) 16 xd) M9.1 0 rfl
  have c9_0_1 := Mem.cell (v := .slice pd 3 yd) M9.1 1 rfl
  have z9_0 := Mem.lt M9.1
  have c9_1_0 := Mem.cell (v := .slice cc 16 xc) M9.2.1 0 rfl
  have c9_1_1 := Mem.cell (v := .slice (some ⟨b, 0, none⟩) 3 yc) M9.2.1 1 rfl
  have z9_1 := Mem.lt M9.2.1
  have c9_2_0 := Mem.cell (v := .slice cb 16 xb) M9.2.2.1 0 rfl
  have c9_2_1 := Mem.cell (v := .slice pb 3 yb) M9.2.2.1 1 rfl
  have z9_2 := Mem.lt M9.2.2.1
  have c9_3_0 := Mem.cell (v := .slice ca 16 xa) M9.2.2.2.1 0 rfl
  have c9_3_1 := Mem.cell (v := .slice pa 3 ya) M9.2.2.2.1 1 rfl
  have z9_3 := Mem.lt M9.2.2.2.1
  have hEE : (E == E) = true := by simp
  have p9_0_0 := fun p : After w9 => Mem.cell (v := .slice (some ⟨h, 0, none⟩) 16 xd) (Mem.after M9 p).1 0 rfl
  have p9_0_1 := fun p : After w9 => Mem.cell (v := .slice pd 3 yd) (Mem.after M9 p).1 1 rfl
  have p9_1_0 := fun p : After w9 => Mem.cell (v := .slice cc 16 xc) (Mem.after M9 p).2.1 0 rfl
  have p9_1_1 := fun p : After w9 => Mem.cell (v := .slice (some ⟨b, 0, none⟩) 3 yc) (Mem.after M9 p).2.1 1 rfl
  have p9_2_0 := fun p : After w9 => Mem.cell (v := .slice cb 16 xb) (Mem.after M9 p).2.2.1 0 rfl
  have p9_2_1 := fun p : After w9 => Mem.cell (v := .slice pb 3 yb) (Mem.after M9 p).2.2.1 1 rfl
  have p9_3_0 := fun p : After w9 => Mem.cell (v := .slice ca 16 xa) (Mem.after M9 p).2.2.2.1 0 rfl
  have p9_3_1 := fun p : After w9 => Mem.cell (v := .slice pa 3 ya) (Mem.after M9 p).2.2.2.1 1 rfl
  refine wp_region_after (by kernel_rfl) (by kernel_rfl) ?_
  repeat (go_big_quiet_step ((first | (go_at_call 11; with_reducible exact After.call (sAA _ (After.h _))) | (go_at_call 11; with_reducible exact After.call (sAB _ (After.h _))) | (go_at_call 11; with_reducible exact After.call (sAC _ (After.h _))) | (go_at_call 11; with_reducible exact After.call (sAD _ (After.h _))) | (go_at_call 10; with_reducible exact After.call (pA _ (After.h _))) | (go_at_call 10; with_reducible exact After.call (pB _ (After.h _))) | (go_at_call 10; with_reducible exact After.call (pC _ (After.h _))))))
  refine wpQuiet_nil ?_
  rintro _ ⟨p9, rfl⟩
  clear p9_0_0 p9_0_1 p9_1_0 p9_1_1 p9_2_0 p9_2_1 p9_3_0 p9_3_1
  clear c9_0_0 c9_0_1 z9_0 c9_1_0 c9_1_1 z9_1 c9_2_0 c9_2_1 z9_2 c9_3_0 c9_3_1 z9_3
  obtain ⟨w10, hW10⟩ : ∃ x, x = p9.world := ⟨_, rfl⟩
  have hB10 : Below w.heap.size w w10 := by rw [hW10]; exact below_then hB9 p9.h
  have hw10 : LaidI w10 := by rw [hW10]; exact hw9.below p9.h
  have M10 := M9.below p9.h
  rw [← hW10] at M10
  rw [← hW10]
  clear hW10
  clear p9
  have c10_0_0 := Mem.cell (v := .slice (some ⟨h, 0, none⟩) 16 xd) M10.1 0 rfl
  have c10_0_1 := Mem.cell (v := .slice pd 3 yd) M10.1 1 rfl
  have z10_0 := Mem.lt M10.1
  have c10_1_0 := Mem.cell (v := .slice cc 16 xc) M10.2.1 0 rfl
  have c10_1_1 := Mem.cell (v := .slice (some ⟨b, 0, none⟩) 3 yc) M10.2.1 1 rfl
  have z10_1 := Mem.lt M10.2.1
  have c10_2_0 := Mem.cell (v := .slice cb 16 xb) M10.2.2.1 0 rfl
  have c10_2_1 := Mem.cell (v := .slice pb 3 yb) M10.2.2.1 1 rfl
  have z10_2 := Mem.lt M10.2.2.1
  have c10_3_0 := Mem.cell (v := .slice ca 16 xa) M10.2.2.2.1 0 rfl
  have c10_3_1 := Mem.cell (v := .slice pa 3 ya) M10.2.2.2.1 1 rfl
  have z10_3 := Mem.lt M10.2.2.2.1
  go_wp2_with fail
  go_wp2_with fail
  go_ret
  exact ⟨rfl, hB10⟩
end Go.Proofs.YtecoeaeonedmnaaGreatDoor
