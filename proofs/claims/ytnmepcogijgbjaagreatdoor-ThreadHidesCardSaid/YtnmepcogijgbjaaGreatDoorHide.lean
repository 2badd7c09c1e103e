/- thread.Hide. -/
import Derived.Test.YtnmepcogijgbjaaGreatDoorZJ
import Derived.Test.YtnmepcogijgbjaaGreatDoorThE
namespace Go.Proofs.YtnmepcogijgbjaaGreatDoor
open Go.RowKit
set_option maxRecDepth 100000 in
set_option maxHeartbeats 2000000 in
theorem hide_all (t : Th) (mS mI : ByteArray) (hn9 : t.sc.n ≤ 1000000) (R : Nat) (hR : R = t.sc.n + 1) (w : World) (HKN : ∀ W, Below w.heap.size w W → Calls Tryz.prog 40 #[.agg #[.slice t.sc.a t.sc.n t.sc.c, .string t.cS, .string t.cI], .agg #[.string mS, .string mI]] W fun e w' => e = .returned (.int .i64 (R : Int)) ∧ Below W.heap.size W w') :
    Calls Tryz.prog 17 #[.agg (th t), .agg #[.string mS, .string mI]] w fun e w' => e = .returned (.tuple #[.agg (th t), .bool true]) ∧ Below w.heap.size w w' := by
  have e1 : ((R : Int) == (t.sc.n : Int) + 1) = true := by rw [hR]; simp
  have e2 : (R : Int) = (t.sc.n : Int) + 1 := by rw [hR]; simp
  have HRR := Lib.hid hR
  clear hR
  have XKN := Lib.hid HKN
  clear HKN
  have hLV := fun w => levels_any t.sc hn9 t.cS t.cI w
  go_enter Tryz.func17, Tryz.ntmps17
  have hB0 := Below.refl w.heap.size w
  have M0 := Mem.nil w
  go_upto_region 1 with (fail)
  refine wp_named ?_
  intro w1 hW1
  have hB1 : Below w.heap.size w w1 := by rw [hW1]; exact (below_al (below_al (below_al hB0 _) _) _)
  have M1 : Mem w1 [(w.heap.size + 1 + 1, .cells (th (th0)) 39), (w.heap.size + 1, .cells #[.string mS, .string mI] 24), (w.heap.size, .cells (th (t)) 39)] := by rw [hW1]; exact (((M0).new' (w.heap.size) (by rfl) (.cells (th (t)) 39)).new' (w.heap.size + 1) (by simp) (.cells #[.string mS, .string mI] 24)).new' (w.heap.size + 1 + 1) (by simp) (.cells (th (th0)) 39)
  clear hW1
  have z1_0 := Mem.lt M1.1
  have c1_1_0 := Mem.cell (v := .string mS) M1.2.1 0 rfl
  have c1_1_1 := Mem.cell (v := .string mI) M1.2.1 1 rfl
  have z1_1 := Mem.lt M1.2.1
  have c1_2_0 := Mem.cell (v := .string t.id) M1.2.2.1 0 rfl
  have c1_2_1 := Mem.cell (v := .string t.pa) M1.2.2.1 1 rfl
  have c1_2_2 := Mem.cell (v := .string t.cS) M1.2.2.1 2 rfl
  have c1_2_3 := Mem.cell (v := .string t.cI) M1.2.2.1 3 rfl
  have c1_2_4 := Mem.cell (v := .string t.kS) M1.2.2.1 4 rfl
  have c1_2_5 := Mem.cell (v := .string t.kI) M1.2.2.1 5 rfl
  have c1_2_6 := Mem.cell (v := .slice t.fr.a t.fr.n t.fr.c) M1.2.2.1 6 rfl
  have c1_2_7 := Mem.cell (v := .slice t.sk.a t.sk.n t.sk.c) M1.2.2.1 7 rfl
  have c1_2_8 := Mem.cell (v := .slice t.tr.a t.tr.n t.tr.c) M1.2.2.1 8 rfl
  have c1_2_9 := Mem.cell (v := .slice t.sc.a t.sc.n t.sc.c) M1.2.2.1 9 rfl
  have c1_2_10 := Mem.cell (v := .int .i64 t.md) M1.2.2.1 10 rfl
  have c1_2_11 := Mem.cell (v := .int .i64 t.rm) M1.2.2.1 11 rfl
  have c1_2_12 := Mem.cell (v := .int .i64 t.st) M1.2.2.1 12 rfl
  have c1_2_13 := Mem.cell (v := .string t.on) M1.2.2.1 13 rfl
  have c1_2_14 := Mem.cell (v := .int .i64 t.vk) M1.2.2.1 14 rfl
  have c1_2_15 := Mem.cell (v := .int .i64 t.vx) M1.2.2.1 15 rfl
  have c1_2_16 := Mem.cell (v := .string t.vm) M1.2.2.1 16 rfl
  have c1_2_17 := Mem.cell (v := .string t.vS) M1.2.2.1 17 rfl
  have c1_2_18 := Mem.cell (v := .string t.vI) M1.2.2.1 18 rfl
  have c1_2_19 := Mem.cell (v := .bool t.ex) M1.2.2.1 19 rfl
  have z1_2 := Mem.lt M1.2.2.1
  refine wp_region_lit ?_
  refine load_th rfl _ rfl (w.heap.size) rfl (t) M1.2.2.1 ?_
  go_wp2_with fail
  refine Calls.named ?_
  intro W2 hW2
  have hB2_ : Below w.heap.size w W2 := by rw [hW2]; exact hB1
  have M2_ := M1
  rw [← hW2] at M2_
  clear hW2
  have ZZ2_0 := Lib.hid (Mem.lt M2_.1)
  have ZZ2_1 := Lib.hid (Mem.lt M2_.2.1)
  have ZZ2_2 := Lib.hid (Mem.lt M2_.2.2.1)
  clear z1_0 c1_1_0 c1_1_1 z1_1 c1_2_0 c1_2_1 c1_2_2 c1_2_3 c1_2_4 c1_2_5 c1_2_6 c1_2_7 c1_2_8 c1_2_9 c1_2_10 c1_2_11 c1_2_12 c1_2_13 c1_2_14 c1_2_15 c1_2_16 c1_2_17 c1_2_18 c1_2_19 z1_2
  refine (parts_any t _).mono ?_
  rintro e w2 ⟨rfl, hb2⟩
  have hB2 := below_then hB2_ hb2
  have M2 := M2_.below hb2
  clear M2_ hB2_ hb2
  have z2_0 := Mem.lt M2.1
  have c2_1_0 := Mem.cell (v := .string mS) M2.2.1 0 rfl
  have c2_1_1 := Mem.cell (v := .string mI) M2.2.1 1 rfl
  have z2_1 := Mem.lt M2.2.1
  have c2_2_0 := Mem.cell (v := .string t.id) M2.2.2.1 0 rfl
  have c2_2_1 := Mem.cell (v := .string t.pa) M2.2.2.1 1 rfl
  have c2_2_2 := Mem.cell (v := .string t.cS) M2.2.2.1 2 rfl
  have c2_2_3 := Mem.cell (v := .string t.cI) M2.2.2.1 3 rfl
  have c2_2_4 := Mem.cell (v := .string t.kS) M2.2.2.1 4 rfl
  have c2_2_5 := Mem.cell (v := .string t.kI) M2.2.2.1 5 rfl
  have c2_2_6 := Mem.cell (v := .slice t.fr.a t.fr.n t.fr.c) M2.2.2.1 6 rfl
  have c2_2_7 := Mem.cell (v := .slice t.sk.a t.sk.n t.sk.c) M2.2.2.1 7 rfl
  have c2_2_8 := Mem.cell (v := .slice t.tr.a t.tr.n t.tr.c) M2.2.2.1 8 rfl
  have c2_2_9 := Mem.cell (v := .slice t.sc.a t.sc.n t.sc.c) M2.2.2.1 9 rfl
  have c2_2_10 := Mem.cell (v := .int .i64 t.md) M2.2.2.1 10 rfl
  have c2_2_11 := Mem.cell (v := .int .i64 t.rm) M2.2.2.1 11 rfl
  have c2_2_12 := Mem.cell (v := .int .i64 t.st) M2.2.2.1 12 rfl
  have c2_2_13 := Mem.cell (v := .string t.on) M2.2.2.1 13 rfl
  have c2_2_14 := Mem.cell (v := .int .i64 t.vk) M2.2.2.1 14 rfl
  have c2_2_15 := Mem.cell (v := .int .i64 t.vx) M2.2.2.1 15 rfl
  have c2_2_16 := Mem.cell (v := .string t.vm) M2.2.2.1 16 rfl
  have c2_2_17 := Mem.cell (v := .string t.vS) M2.2.2.1 17 rfl
  have c2_2_18 := Mem.cell (v := .string t.vI) M2.2.2.1 18 rfl
  have c2_2_19 := Mem.cell (v := .bool t.ex) M2.2.2.1 19 rfl
  have z2_2 := Mem.lt M2.2.2.1
  have yS : w.heap.size + 1 + 1 < w2.heap.size := z2_0
  go_wp2_with fail
  refine Calls.named ?_
  intro W3 hW3
  have hB3_ : Below w.heap.size w W3 := by rw [hW3]; exact (below_al hB2 _)
  have M3_ := (M2).new' (w2.heap.size) (by rfl) (.cells #[.slice t.sc.a t.sc.n t.sc.c, .string t.cS, .string t.cI] 78)
  rw [← hW3] at M3_
  clear hW3
  have ZZ3_0 := Lib.hid (Mem.lt M3_.1)
  have ZZ3_1 := Lib.hid (Mem.lt M3_.2.1)
  have ZZ3_2 := Lib.hid (Mem.lt M3_.2.2.1)
  have ZZ3_3 := Lib.hid (Mem.lt M3_.2.2.2.1)
  clear z2_0 c2_1_0 c2_1_1 z2_1 c2_2_0 c2_2_1 c2_2_2 c2_2_3 c2_2_4 c2_2_5 c2_2_6 c2_2_7 c2_2_8 c2_2_9 c2_2_10 c2_2_11 c2_2_12 c2_2_13 c2_2_14 c2_2_15 c2_2_16 c2_2_17 c2_2_18 c2_2_19 z2_2
  refine (XKN.out _ hB3_).mono ?_
  rintro e w3 ⟨rfl, hb3⟩
  have hB3 := below_then hB3_ hb3
  have M3 := M3_.below hb3
  clear M3_ hB3_ hb3
  have c3_0_0 := Mem.cell (v := .slice t.sc.a t.sc.n t.sc.c) M3.1 0 rfl
  have c3_0_1 := Mem.cell (v := .string t.cS) M3.1 1 rfl
  have c3_0_2 := Mem.cell (v := .string t.cI) M3.1 2 rfl
  have z3_0 := Mem.lt M3.1
  have z3_1 := Mem.lt M3.2.1
  have c3_2_0 := Mem.cell (v := .string mS) M3.2.2.1 0 rfl
  have c3_2_1 := Mem.cell (v := .string mI) M3.2.2.1 1 rfl
  have z3_2 := Mem.lt M3.2.2.1
  have c3_3_0 := Mem.cell (v := .string t.id) M3.2.2.2.1 0 rfl
  have c3_3_1 := Mem.cell (v := .string t.pa) M3.2.2.2.1 1 rfl
  have c3_3_2 := Mem.cell (v := .string t.cS) M3.2.2.2.1 2 rfl
  have c3_3_3 := Mem.cell (v := .string t.cI) M3.2.2.2.1 3 rfl
  have c3_3_4 := Mem.cell (v := .string t.kS) M3.2.2.2.1 4 rfl
  have c3_3_5 := Mem.cell (v := .string t.kI) M3.2.2.2.1 5 rfl
  have c3_3_6 := Mem.cell (v := .slice t.fr.a t.fr.n t.fr.c) M3.2.2.2.1 6 rfl
  have c3_3_7 := Mem.cell (v := .slice t.sk.a t.sk.n t.sk.c) M3.2.2.2.1 7 rfl
  have c3_3_8 := Mem.cell (v := .slice t.tr.a t.tr.n t.tr.c) M3.2.2.2.1 8 rfl
  have c3_3_9 := Mem.cell (v := .slice t.sc.a t.sc.n t.sc.c) M3.2.2.2.1 9 rfl
  have c3_3_10 := Mem.cell (v := .int .i64 t.md) M3.2.2.2.1 10 rfl
  have c3_3_11 := Mem.cell (v := .int .i64 t.rm) M3.2.2.2.1 11 rfl
  have c3_3_12 := Mem.cell (v := .int .i64 t.st) M3.2.2.2.1 12 rfl
  have c3_3_13 := Mem.cell (v := .string t.on) M3.2.2.2.1 13 rfl
  have c3_3_14 := Mem.cell (v := .int .i64 t.vk) M3.2.2.2.1 14 rfl
  have c3_3_15 := Mem.cell (v := .int .i64 t.vx) M3.2.2.2.1 15 rfl
  have c3_3_16 := Mem.cell (v := .string t.vm) M3.2.2.2.1 16 rfl
  have c3_3_17 := Mem.cell (v := .string t.vS) M3.2.2.2.1 17 rfl
  have c3_3_18 := Mem.cell (v := .string t.vI) M3.2.2.2.1 18 rfl
  have c3_3_19 := Mem.cell (v := .bool t.ex) M3.2.2.2.1 19 rfl
  have z3_3 := Mem.lt M3.2.2.2.1
  go_wp2_with fail
  refine Calls.named ?_
  intro W4 hW4
  have hB4_ : Below w.heap.size w W4 := by rw [hW4]; exact hB3
  have M4_ := M3
  rw [← hW4] at M4_
  clear hW4
  have ZZ4_0 := Lib.hid (Mem.lt M4_.1)
  have ZZ4_1 := Lib.hid (Mem.lt M4_.2.1)
  have ZZ4_2 := Lib.hid (Mem.lt M4_.2.2.1)
  have ZZ4_3 := Lib.hid (Mem.lt M4_.2.2.2.1)
  clear c3_0_0 c3_0_1 c3_0_2 z3_0 z3_1 c3_2_0 c3_2_1 z3_2 c3_3_0 c3_3_1 c3_3_2 c3_3_3 c3_3_4 c3_3_5 c3_3_6 c3_3_7 c3_3_8 c3_3_9 c3_3_10 c3_3_11 c3_3_12 c3_3_13 c3_3_14 c3_3_15 c3_3_16 c3_3_17 c3_3_18 c3_3_19 z3_3
  refine (hLV _).mono ?_
  rintro e w4 ⟨rfl, hb4⟩
  have hB4 := below_then hB4_ hb4
  have M4 := M4_.below hb4
  clear M4_ hB4_ hb4
  have c4_0_0 := Mem.cell (v := .slice t.sc.a t.sc.n t.sc.c) M4.1 0 rfl
  have c4_0_1 := Mem.cell (v := .string t.cS) M4.1 1 rfl
  have c4_0_2 := Mem.cell (v := .string t.cI) M4.1 2 rfl
  have z4_0 := Mem.lt M4.1
  have z4_1 := Mem.lt M4.2.1
  have c4_2_0 := Mem.cell (v := .string mS) M4.2.2.1 0 rfl
  have c4_2_1 := Mem.cell (v := .string mI) M4.2.2.1 1 rfl
  have z4_2 := Mem.lt M4.2.2.1
  have c4_3_0 := Mem.cell (v := .string t.id) M4.2.2.2.1 0 rfl
  have c4_3_1 := Mem.cell (v := .string t.pa) M4.2.2.2.1 1 rfl
  have c4_3_2 := Mem.cell (v := .string t.cS) M4.2.2.2.1 2 rfl
  have c4_3_3 := Mem.cell (v := .string t.cI) M4.2.2.2.1 3 rfl
  have c4_3_4 := Mem.cell (v := .string t.kS) M4.2.2.2.1 4 rfl
  have c4_3_5 := Mem.cell (v := .string t.kI) M4.2.2.2.1 5 rfl
  have c4_3_6 := Mem.cell (v := .slice t.fr.a t.fr.n t.fr.c) M4.2.2.2.1 6 rfl
  have c4_3_7 := Mem.cell (v := .slice t.sk.a t.sk.n t.sk.c) M4.2.2.2.1 7 rfl
  have c4_3_8 := Mem.cell (v := .slice t.tr.a t.tr.n t.tr.c) M4.2.2.2.1 8 rfl
  have c4_3_9 := Mem.cell (v := .slice t.sc.a t.sc.n t.sc.c) M4.2.2.2.1 9 rfl
  have c4_3_10 := Mem.cell (v := .int .i64 t.md) M4.2.2.2.1 10 rfl
  have c4_3_11 := Mem.cell (v := .int .i64 t.rm) M4.2.2.2.1 11 rfl
  have c4_3_12 := Mem.cell (v := .int .i64 t.st) M4.2.2.2.1 12 rfl
  have c4_3_13 := Mem.cell (v := .string t.on) M4.2.2.2.1 13 rfl
  have c4_3_14 := Mem.cell (v := .int .i64 t.vk) M4.2.2.2.1 14 rfl
  have c4_3_15 := Mem.cell (v := .int .i64 t.vx) M4.2.2.2.1 15 rfl
  have c4_3_16 := Mem.cell (v := .string t.vm) M4.2.2.2.1 16 rfl
  have c4_3_17 := Mem.cell (v := .string t.vS) M4.2.2.2.1 17 rfl
  have c4_3_18 := Mem.cell (v := .string t.vI) M4.2.2.2.1 18 rfl
  have c4_3_19 := Mem.cell (v := .bool t.ex) M4.2.2.2.1 19 rfl
  have z4_3 := Mem.lt M4.2.2.2.1
  go_upto_region 5 with (fail)
  refine wp_region_lit ?_
  refine load_th rfl _ rfl (w.heap.size) rfl (t) M4.2.2.2.1 ?_
  refine store_th rfl _ _ rfl (w.heap.size + 1 + 1) rfl (th0) (t) rfl M4.2.1 (one_th _) ?_
  intro w5 hW5
  have hB5 : Below w.heap.size w w5 := by rw [hW5]; exact below_setCells (B := w.heap.size) hB4 (b := w.heap.size + 1 + 1) (by have := hB4.size; omega) 0 _
  have M5 : Mem w5 [(w2.heap.size, .cells #[.slice t.sc.a t.sc.n t.sc.c, .string t.cS, .string t.cI] 78), (w.heap.size + 1 + 1, .cells (th (t)) 39), (w.heap.size + 1, .cells #[.string mS, .string mI] 24), (w.heap.size, .cells (th (t)) 39)] := by rw [hW5]; exact ⟨(setCells_other _ 0 _ _ (by omega)).trans M4.1, set_th M4.2.1 _, (setCells_other _ 0 _ _ (by omega)).trans M4.2.2.1, (setCells_other _ 0 _ _ (by omega)).trans M4.2.2.2.1, trivial⟩
  clear c4_0_0 c4_0_1 c4_0_2 z4_0 z4_1 c4_2_0 c4_2_1 z4_2 c4_3_0 c4_3_1 c4_3_2 c4_3_3 c4_3_4 c4_3_5 c4_3_6 c4_3_7 c4_3_8 c4_3_9 c4_3_10 c4_3_11 c4_3_12 c4_3_13 c4_3_14 c4_3_15 c4_3_16 c4_3_17 c4_3_18 c4_3_19 z4_3
  clear hW5
  have c5_0_0 := Mem.cell (v := .slice t.sc.a t.sc.n t.sc.c) M5.1 0 rfl
  have c5_0_1 := Mem.cell (v := .string t.cS) M5.1 1 rfl
  have c5_0_2 := Mem.cell (v := .string t.cI) M5.1 2 rfl
  have z5_0 := Mem.lt M5.1
  have c5_1_0 := Mem.cell (v := .string t.id) M5.2.1 0 rfl
  have c5_1_1 := Mem.cell (v := .string t.pa) M5.2.1 1 rfl
  have c5_1_2 := Mem.cell (v := .string t.cS) M5.2.1 2 rfl
  have c5_1_3 := Mem.cell (v := .string t.cI) M5.2.1 3 rfl
  have c5_1_4 := Mem.cell (v := .string t.kS) M5.2.1 4 rfl
  have c5_1_5 := Mem.cell (v := .string t.kI) M5.2.1 5 rfl
  have c5_1_6 := Mem.cell (v := .slice t.fr.a t.fr.n t.fr.c) M5.2.1 6 rfl
  have c5_1_7 := Mem.cell (v := .slice t.sk.a t.sk.n t.sk.c) M5.2.1 7 rfl
  have c5_1_8 := Mem.cell (v := .slice t.tr.a t.tr.n t.tr.c) M5.2.1 8 rfl
  have c5_1_9 := Mem.cell (v := .slice t.sc.a t.sc.n t.sc.c) M5.2.1 9 rfl
  have c5_1_10 := Mem.cell (v := .int .i64 t.md) M5.2.1 10 rfl
  have c5_1_11 := Mem.cell (v := .int .i64 t.rm) M5.2.1 11 rfl
  have c5_1_12 := Mem.cell (v := .int .i64 t.st) M5.2.1 12 rfl
  have c5_1_13 := Mem.cell (v := .string t.on) M5.2.1 13 rfl
  have c5_1_14 := Mem.cell (v := .int .i64 t.vk) M5.2.1 14 rfl
  have c5_1_15 := Mem.cell (v := .int .i64 t.vx) M5.2.1 15 rfl
  have c5_1_16 := Mem.cell (v := .string t.vm) M5.2.1 16 rfl
  have c5_1_17 := Mem.cell (v := .string t.vS) M5.2.1 17 rfl
  have c5_1_18 := Mem.cell (v := .string t.vI) M5.2.1 18 rfl
  have c5_1_19 := Mem.cell (v := .bool t.ex) M5.2.1 19 rfl
  have z5_1 := Mem.lt M5.2.1
  have c5_2_0 := Mem.cell (v := .string mS) M5.2.2.1 0 rfl
  have c5_2_1 := Mem.cell (v := .string mI) M5.2.2.1 1 rfl
  have z5_2 := Mem.lt M5.2.2.1
  have c5_3_0 := Mem.cell (v := .string t.id) M5.2.2.2.1 0 rfl
  have c5_3_1 := Mem.cell (v := .string t.pa) M5.2.2.2.1 1 rfl
  have c5_3_2 := Mem.cell (v := .string t.cS) M5.2.2.2.1 2 rfl
  have c5_3_3 := Mem.cell (v := .string t.cI) M5.2.2.2.1 3 rfl
  have c5_3_4 := Mem.cell (v := .string t.kS) M5.2.2.2.1 4 rfl
  have c5_3_5 := Mem.cell (v := .string t.kI) M5.2.2.2.1 5 rfl
  have c5_3_6 := Mem.cell (v := .slice t.fr.a t.fr.n t.fr.c) M5.2.2.2.1 6 rfl
  have c5_3_7 := Mem.cell (v := .slice t.sk.a t.sk.n t.sk.c) M5.2.2.2.1 7 rfl
  have c5_3_8 := Mem.cell (v := .slice t.tr.a t.tr.n t.tr.c) M5.2.2.2.1 8 rfl
  have c5_3_9 := Mem.cell (v := .slice t.sc.a t.sc.n t.sc.c) M5.2.2.2.1 9 rfl
  have c5_3_10 := Mem.cell (v := .int .i64 t.md) M5.2.2.2.1 10 rfl
  have c5_3_11 := Mem.cell (v := .int .i64 t.rm) M5.2.2.2.1 11 rfl
  have c5_3_12 := Mem.cell (v := .int .i64 t.st) M5.2.2.2.1 12 rfl
  have c5_3_13 := Mem.cell (v := .string t.on) M5.2.2.2.1 13 rfl
  have c5_3_14 := Mem.cell (v := .int .i64 t.vk) M5.2.2.2.1 14 rfl
  have c5_3_15 := Mem.cell (v := .int .i64 t.vx) M5.2.2.2.1 15 rfl
  have c5_3_16 := Mem.cell (v := .string t.vm) M5.2.2.2.1 16 rfl
  have c5_3_17 := Mem.cell (v := .string t.vS) M5.2.2.2.1 17 rfl
  have c5_3_18 := Mem.cell (v := .string t.vI) M5.2.2.2.1 18 rfl
  have c5_3_19 := Mem.cell (v := .bool t.ex) M5.2.2.2.1 19 rfl
  have z5_3 := Mem.lt M5.2.2.2.1
  go_wp2_with fail
  refine bodyPost_ret (v := .tuple #[.agg (th (t)), .bool true]) (results_th2 Tryz.results17 _ _ (w.heap.size + 1 + 1) (t) rfl M5.2.1) rfl ⟨rfl, hB5⟩
set_option maxRecDepth 100000 in
set_option maxHeartbeats 2000000 in
theorem hide_none (t : Th) (mS mI : ByteArray) (hn9 : t.sc.n ≤ 1000000) (R : Nat) (hR : R = 0) (w : World) (HKN : ∀ W, Below w.heap.size w W → Calls Tryz.prog 40 #[.agg #[.slice t.sc.a t.sc.n t.sc.c, .string t.cS, .string t.cI], .agg #[.string mS, .string mI]] W fun e w' => e = .returned (.int .i64 (R : Int)) ∧ Below W.heap.size W w') :
    Calls Tryz.prog 17 #[.agg (th t), .agg #[.string mS, .string mI]] w fun e w' => e = .returned (.tuple #[.agg (th th0), .bool false]) ∧ Below w.heap.size w w' := by
  subst hR
  have e1 : ((0 : Int) == (t.sc.n : Int) + 1) = false := by simp; omega
  have e2 : ¬ ((0 : Int) = (t.sc.n : Int) + 1) := by omega
  have XKN := Lib.hid HKN
  clear HKN
  have hLV := fun w => levels_any t.sc hn9 t.cS t.cI w
  go_enter Tryz.func17, Tryz.ntmps17
  have hB0 := Below.refl w.heap.size w
  have M0 := Mem.nil w
  go_upto_region 1 with (fail)
  refine wp_named ?_
  intro w1 hW1
  have hB1 : Below w.heap.size w w1 := by rw [hW1]; exact (below_al (below_al (below_al hB0 _) _) _)
  have M1 : Mem w1 [(w.heap.size + 1 + 1, .cells (th (th0)) 39), (w.heap.size + 1, .cells #[.string mS, .string mI] 24), (w.heap.size, .cells (th (t)) 39)] := by rw [hW1]; exact (((M0).new' (w.heap.size) (by rfl) (.cells (th (t)) 39)).new' (w.heap.size + 1) (by simp) (.cells #[.string mS, .string mI] 24)).new' (w.heap.size + 1 + 1) (by simp) (.cells (th (th0)) 39)
  clear hW1
  have z1_0 := Mem.lt M1.1
  have c1_1_0 := Mem.cell (v := .string mS) M1.2.1 0 rfl
  have c1_1_1 := Mem.cell (v := .string mI) M1.2.1 1 rfl
  have z1_1 := Mem.lt M1.2.1
  have c1_2_0 := Mem.cell (v := .string t.id) M1.2.2.1 0 rfl
  have c1_2_1 := Mem.cell (v := .string t.pa) M1.2.2.1 1 rfl
  have c1_2_2 := Mem.cell (v := .string t.cS) M1.2.2.1 2 rfl
  have c1_2_3 := Mem.cell (v := .string t.cI) M1.2.2.1 3 rfl
  have c1_2_4 := Mem.cell (v := .string t.kS) M1.2.2.1 4 rfl
  have c1_2_5 := Mem.cell (v := .string t.kI) M1.2.2.1 5 rfl
  have c1_2_6 := Mem.cell (v := .slice t.fr.a t.fr.n t.fr.c) M1.2.2.1 6 rfl
  have c1_2_7 := Mem.cell (v := .slice t.sk.a t.sk.n t.sk.c) M1.2.2.1 7 rfl
  have c1_2_8 := Mem.cell (v := .slice t.tr.a t.tr.n t.tr.c) M1.2.2.1 8 rfl
  have c1_2_9 := Mem.cell (v := .slice t.sc.a t.sc.n t.sc.c) M1.2.2.1 9 rfl
  have c1_2_10 := Mem.cell (v := .int .i64 t.md) M1.2.2.1 10 rfl
  have c1_2_11 := Mem.cell (v := .int .i64 t.rm) M1.2.2.1 11 rfl
  have c1_2_12 := Mem.cell (v := .int .i64 t.st) M1.2.2.1 12 rfl
  have c1_2_13 := Mem.cell (v := .string t.on) M1.2.2.1 13 rfl
  have c1_2_14 := Mem.cell (v := .int .i64 t.vk) M1.2.2.1 14 rfl
  have c1_2_15 := Mem.cell (v := .int .i64 t.vx) M1.2.2.1 15 rfl
  have c1_2_16 := Mem.cell (v := .string t.vm) M1.2.2.1 16 rfl
  have c1_2_17 := Mem.cell (v := .string t.vS) M1.2.2.1 17 rfl
  have c1_2_18 := Mem.cell (v := .string t.vI) M1.2.2.1 18 rfl
  have c1_2_19 := Mem.cell (v := .bool t.ex) M1.2.2.1 19 rfl
  have z1_2 := Mem.lt M1.2.2.1
  refine wp_region_lit ?_
  refine load_th rfl _ rfl (w.heap.size) rfl (t) M1.2.2.1 ?_
  go_wp2_with fail
  refine Calls.named ?_
  intro W2 hW2
  have hB2_ : Below w.heap.size w W2 := by rw [hW2]; exact hB1
  have M2_ := M1
  rw [← hW2] at M2_
  clear hW2
  have ZZ2_0 := Lib.hid (Mem.lt M2_.1)
  have ZZ2_1 := Lib.hid (Mem.lt M2_.2.1)
  have ZZ2_2 := Lib.hid (Mem.lt M2_.2.2.1)
  clear z1_0 c1_1_0 c1_1_1 z1_1 c1_2_0 c1_2_1 c1_2_2 c1_2_3 c1_2_4 c1_2_5 c1_2_6 c1_2_7 c1_2_8 c1_2_9 c1_2_10 c1_2_11 c1_2_12 c1_2_13 c1_2_14 c1_2_15 c1_2_16 c1_2_17 c1_2_18 c1_2_19 z1_2
  refine (parts_any t _).mono ?_
  rintro e w2 ⟨rfl, hb2⟩
  have hB2 := below_then hB2_ hb2
  have M2 := M2_.below hb2
  clear M2_ hB2_ hb2
  have z2_0 := Mem.lt M2.1
  have c2_1_0 := Mem.cell (v := .string mS) M2.2.1 0 rfl
  have c2_1_1 := Mem.cell (v := .string mI) M2.2.1 1 rfl
  have z2_1 := Mem.lt M2.2.1
  have c2_2_0 := Mem.cell (v := .string t.id) M2.2.2.1 0 rfl
  have c2_2_1 := Mem.cell (v := .string t.pa) M2.2.2.1 1 rfl
  have c2_2_2 := Mem.cell (v := .string t.cS) M2.2.2.1 2 rfl
  have c2_2_3 := Mem.cell (v := .string t.cI) M2.2.2.1 3 rfl
  have c2_2_4 := Mem.cell (v := .string t.kS) M2.2.2.1 4 rfl
  have c2_2_5 := Mem.cell (v := .string t.kI) M2.2.2.1 5 rfl
  have c2_2_6 := Mem.cell (v := .slice t.fr.a t.fr.n t.fr.c) M2.2.2.1 6 rfl
  have c2_2_7 := Mem.cell (v := .slice t.sk.a t.sk.n t.sk.c) M2.2.2.1 7 rfl
  have c2_2_8 := Mem.cell (v := .slice t.tr.a t.tr.n t.tr.c) M2.2.2.1 8 rfl
  have c2_2_9 := Mem.cell (v := .slice t.sc.a t.sc.n t.sc.c) M2.2.2.1 9 rfl
  have c2_2_10 := Mem.cell (v := .int .i64 t.md) M2.2.2.1 10 rfl
  have c2_2_11 := Mem.cell (v := .int .i64 t.rm) M2.2.2.1 11 rfl
  have c2_2_12 := Mem.cell (v := .int .i64 t.st) M2.2.2.1 12 rfl
  have c2_2_13 := Mem.cell (v := .string t.on) M2.2.2.1 13 rfl
  have c2_2_14 := Mem.cell (v := .int .i64 t.vk) M2.2.2.1 14 rfl
  have c2_2_15 := Mem.cell (v := .int .i64 t.vx) M2.2.2.1 15 rfl
  have c2_2_16 := Mem.cell (v := .string t.vm) M2.2.2.1 16 rfl
  have c2_2_17 := Mem.cell (v := .string t.vS) M2.2.2.1 17 rfl
  have c2_2_18 := Mem.cell (v := .string t.vI) M2.2.2.1 18 rfl
  have c2_2_19 := Mem.cell (v := .bool t.ex) M2.2.2.1 19 rfl
  have z2_2 := Mem.lt M2.2.2.1
  have yS : w.heap.size + 1 + 1 < w2.heap.size := z2_0
  go_wp2_with fail
  refine Calls.named ?_
  intro W3 hW3
  have hB3_ : Below w.heap.size w W3 := by rw [hW3]; exact (below_al hB2 _)
  have M3_ := (M2).new' (w2.heap.size) (by rfl) (.cells #[.slice t.sc.a t.sc.n t.sc.c, .string t.cS, .string t.cI] 78)
  rw [← hW3] at M3_
  clear hW3
  have ZZ3_0 := Lib.hid (Mem.lt M3_.1)
  have ZZ3_1 := Lib.hid (Mem.lt M3_.2.1)
  have ZZ3_2 := Lib.hid (Mem.lt M3_.2.2.1)
  have ZZ3_3 := Lib.hid (Mem.lt M3_.2.2.2.1)
  clear z2_0 c2_1_0 c2_1_1 z2_1 c2_2_0 c2_2_1 c2_2_2 c2_2_3 c2_2_4 c2_2_5 c2_2_6 c2_2_7 c2_2_8 c2_2_9 c2_2_10 c2_2_11 c2_2_12 c2_2_13 c2_2_14 c2_2_15 c2_2_16 c2_2_17 c2_2_18 c2_2_19 z2_2
  refine (XKN.out _ hB3_).mono ?_
  rintro e w3 ⟨rfl, hb3⟩
  have hB3 := below_then hB3_ hb3
  have M3 := M3_.below hb3
  clear M3_ hB3_ hb3
  have c3_0_0 := Mem.cell (v := .slice t.sc.a t.sc.n t.sc.c) M3.1 0 rfl
  have c3_0_1 := Mem.cell (v := .string t.cS) M3.1 1 rfl
  have c3_0_2 := Mem.cell (v := .string t.cI) M3.1 2 rfl
  have z3_0 := Mem.lt M3.1
  have z3_1 := Mem.lt M3.2.1
  have c3_2_0 := Mem.cell (v := .string mS) M3.2.2.1 0 rfl
  have c3_2_1 := Mem.cell (v := .string mI) M3.2.2.1 1 rfl
  have z3_2 := Mem.lt M3.2.2.1
  have c3_3_0 := Mem.cell (v := .string t.id) M3.2.2.2.1 0 rfl
  have c3_3_1 := Mem.cell (v := .string t.pa) M3.2.2.2.1 1 rfl
  have c3_3_2 := Mem.cell (v := .string t.cS) M3.2.2.2.1 2 rfl
  have c3_3_3 := Mem.cell (v := .string t.cI) M3.2.2.2.1 3 rfl
  have c3_3_4 := Mem.cell (v := .string t.kS) M3.2.2.2.1 4 rfl
  have c3_3_5 := Mem.cell (v := .string t.kI) M3.2.2.2.1 5 rfl
  have c3_3_6 := Mem.cell (v := .slice t.fr.a t.fr.n t.fr.c) M3.2.2.2.1 6 rfl
  have c3_3_7 := Mem.cell (v := .slice t.sk.a t.sk.n t.sk.c) M3.2.2.2.1 7 rfl
  have c3_3_8 := Mem.cell (v := .slice t.tr.a t.tr.n t.tr.c) M3.2.2.2.1 8 rfl
  have c3_3_9 := Mem.cell (v := .slice t.sc.a t.sc.n t.sc.c) M3.2.2.2.1 9 rfl
  have c3_3_10 := Mem.cell (v := .int .i64 t.md) M3.2.2.2.1 10 rfl
  have c3_3_11 := Mem.cell (v := .int .i64 t.rm) M3.2.2.2.1 11 rfl
  have c3_3_12 := Mem.cell (v := .int .i64 t.st) M3.2.2.2.1 12 rfl
  have c3_3_13 := Mem.cell (v := .string t.on) M3.2.2.2.1 13 rfl
  have c3_3_14 := Mem.cell (v := .int .i64 t.vk) M3.2.2.2.1 14 rfl
  have c3_3_15 := Mem.cell (v := .int .i64 t.vx) M3.2.2.2.1 15 rfl
  have c3_3_16 := Mem.cell (v := .string t.vm) M3.2.2.2.1 16 rfl
  have c3_3_17 := Mem.cell (v := .string t.vS) M3.2.2.2.1 17 rfl
  have c3_3_18 := Mem.cell (v := .string t.vI) M3.2.2.2.1 18 rfl
  have c3_3_19 := Mem.cell (v := .bool t.ex) M3.2.2.2.1 19 rfl
  have z3_3 := Mem.lt M3.2.2.2.1
  go_wp2_with fail
  refine Calls.named ?_
  intro W4 hW4
  have hB4_ : Below w.heap.size w W4 := by rw [hW4]; exact hB3
  have M4_ := M3
  rw [← hW4] at M4_
  clear hW4
  have ZZ4_0 := Lib.hid (Mem.lt M4_.1)
  have ZZ4_1 := Lib.hid (Mem.lt M4_.2.1)
  have ZZ4_2 := Lib.hid (Mem.lt M4_.2.2.1)
  have ZZ4_3 := Lib.hid (Mem.lt M4_.2.2.2.1)
  clear c3_0_0 c3_0_1 c3_0_2 z3_0 z3_1 c3_2_0 c3_2_1 z3_2 c3_3_0 c3_3_1 c3_3_2 c3_3_3 c3_3_4 c3_3_5 c3_3_6 c3_3_7 c3_3_8 c3_3_9 c3_3_10 c3_3_11 c3_3_12 c3_3_13 c3_3_14 c3_3_15 c3_3_16 c3_3_17 c3_3_18 c3_3_19 z3_3
  refine (hLV _).mono ?_
  rintro e w4 ⟨rfl, hb4⟩
  have hB4 := below_then hB4_ hb4
  have M4 := M4_.below hb4
  clear M4_ hB4_ hb4
  have c4_0_0 := Mem.cell (v := .slice t.sc.a t.sc.n t.sc.c) M4.1 0 rfl
  have c4_0_1 := Mem.cell (v := .string t.cS) M4.1 1 rfl
  have c4_0_2 := Mem.cell (v := .string t.cI) M4.1 2 rfl
  have z4_0 := Mem.lt M4.1
  have z4_1 := Mem.lt M4.2.1
  have c4_2_0 := Mem.cell (v := .string mS) M4.2.2.1 0 rfl
  have c4_2_1 := Mem.cell (v := .string mI) M4.2.2.1 1 rfl
  have z4_2 := Mem.lt M4.2.2.1
  have c4_3_0 := Mem.cell (v := .string t.id) M4.2.2.2.1 0 rfl
  have c4_3_1 := Mem.cell (v := .string t.pa) M4.2.2.2.1 1 rfl
  have c4_3_2 := Mem.cell (v := .string t.cS) M4.2.2.2.1 2 rfl
  have c4_3_3 := Mem.cell (v := .string t.cI) M4.2.2.2.1 3 rfl
  have c4_3_4 := Mem.cell (v := .string t.kS) M4.2.2.2.1 4 rfl
  have c4_3_5 := Mem.cell (v := .string t.kI) M4.2.2.2.1 5 rfl
  have c4_3_6 := Mem.cell (v := .slice t.fr.a t.fr.n t.fr.c) M4.2.2.2.1 6 rfl
  have c4_3_7 := Mem.cell (v := .slice t.sk.a t.sk.n t.sk.c) M4.2.2.2.1 7 rfl
  have c4_3_8 := Mem.cell (v := .slice t.tr.a t.tr.n t.tr.c) M4.2.2.2.1 8 rfl
  have c4_3_9 := Mem.cell (v := .slice t.sc.a t.sc.n t.sc.c) M4.2.2.2.1 9 rfl
  have c4_3_10 := Mem.cell (v := .int .i64 t.md) M4.2.2.2.1 10 rfl
  have c4_3_11 := Mem.cell (v := .int .i64 t.rm) M4.2.2.2.1 11 rfl
  have c4_3_12 := Mem.cell (v := .int .i64 t.st) M4.2.2.2.1 12 rfl
  have c4_3_13 := Mem.cell (v := .string t.on) M4.2.2.2.1 13 rfl
  have c4_3_14 := Mem.cell (v := .int .i64 t.vk) M4.2.2.2.1 14 rfl
  have c4_3_15 := Mem.cell (v := .int .i64 t.vx) M4.2.2.2.1 15 rfl
  have c4_3_16 := Mem.cell (v := .string t.vm) M4.2.2.2.1 16 rfl
  have c4_3_17 := Mem.cell (v := .string t.vS) M4.2.2.2.1 17 rfl
  have c4_3_18 := Mem.cell (v := .string t.vI) M4.2.2.2.1 18 rfl
  have c4_3_19 := Mem.cell (v := .bool t.ex) M4.2.2.2.1 19 rfl
  have z4_3 := Mem.lt M4.2.2.2.1
  go_upto_region 7 with (fail)
  refine wp_region_lit ?_
  iterate 3 go_step
  refine store_th rfl _ _ rfl (w.heap.size + 1 + 1) rfl (th0) (th0) rfl M4.2.1 (one_th _) ?_
  intro w5 hW5
  have hB5 : Below w.heap.size w w5 := by rw [hW5]; exact below_setCells (B := w.heap.size) hB4 (b := w.heap.size + 1 + 1) (by have := hB4.size; omega) 0 _
  have M5 : Mem w5 [(w2.heap.size, .cells #[.slice t.sc.a t.sc.n t.sc.c, .string t.cS, .string t.cI] 78), (w.heap.size + 1 + 1, .cells (th (th0)) 39), (w.heap.size + 1, .cells #[.string mS, .string mI] 24), (w.heap.size, .cells (th (t)) 39)] := by rw [hW5]; exact ⟨(setCells_other _ 0 _ _ (by omega)).trans M4.1, set_th M4.2.1 _, (setCells_other _ 0 _ _ (by omega)).trans M4.2.2.1, (setCells_other _ 0 _ _ (by omega)).trans M4.2.2.2.1, trivial⟩
  clear c4_0_0 c4_0_1 c4_0_2 z4_0 z4_1 c4_2_0 c4_2_1 z4_2 c4_3_0 c4_3_1 c4_3_2 c4_3_3 c4_3_4 c4_3_5 c4_3_6 c4_3_7 c4_3_8 c4_3_9 c4_3_10 c4_3_11 c4_3_12 c4_3_13 c4_3_14 c4_3_15 c4_3_16 c4_3_17 c4_3_18 c4_3_19 z4_3
  clear hW5
  have c5_0_0 := Mem.cell (v := .slice t.sc.a t.sc.n t.sc.c) M5.1 0 rfl
  have c5_0_1 := Mem.cell (v := .string t.cS) M5.1 1 rfl
  have c5_0_2 := Mem.cell (v := .string t.cI) M5.1 2 rfl
  have z5_0 := Mem.lt M5.1
  have z5_1 := Mem.lt M5.2.1
  have c5_2_0 := Mem.cell (v := .string mS) M5.2.2.1 0 rfl
  have c5_2_1 := Mem.cell (v := .string mI) M5.2.2.1 1 rfl
  have z5_2 := Mem.lt M5.2.2.1
  have c5_3_0 := Mem.cell (v := .string t.id) M5.2.2.2.1 0 rfl
  have c5_3_1 := Mem.cell (v := .string t.pa) M5.2.2.2.1 1 rfl
  have c5_3_2 := Mem.cell (v := .string t.cS) M5.2.2.2.1 2 rfl
  have c5_3_3 := Mem.cell (v := .string t.cI) M5.2.2.2.1 3 rfl
  have c5_3_4 := Mem.cell (v := .string t.kS) M5.2.2.2.1 4 rfl
  have c5_3_5 := Mem.cell (v := .string t.kI) M5.2.2.2.1 5 rfl
  have c5_3_6 := Mem.cell (v := .slice t.fr.a t.fr.n t.fr.c) M5.2.2.2.1 6 rfl
  have c5_3_7 := Mem.cell (v := .slice t.sk.a t.sk.n t.sk.c) M5.2.2.2.1 7 rfl
  have c5_3_8 := Mem.cell (v := .slice t.tr.a t.tr.n t.tr.c) M5.2.2.2.1 8 rfl
  have c5_3_9 := Mem.cell (v := .slice t.sc.a t.sc.n t.sc.c) M5.2.2.2.1 9 rfl
  have c5_3_10 := Mem.cell (v := .int .i64 t.md) M5.2.2.2.1 10 rfl
  have c5_3_11 := Mem.cell (v := .int .i64 t.rm) M5.2.2.2.1 11 rfl
  have c5_3_12 := Mem.cell (v := .int .i64 t.st) M5.2.2.2.1 12 rfl
  have c5_3_13 := Mem.cell (v := .string t.on) M5.2.2.2.1 13 rfl
  have c5_3_14 := Mem.cell (v := .int .i64 t.vk) M5.2.2.2.1 14 rfl
  have c5_3_15 := Mem.cell (v := .int .i64 t.vx) M5.2.2.2.1 15 rfl
  have c5_3_16 := Mem.cell (v := .string t.vm) M5.2.2.2.1 16 rfl
  have c5_3_17 := Mem.cell (v := .string t.vS) M5.2.2.2.1 17 rfl
  have c5_3_18 := Mem.cell (v := .string t.vI) M5.2.2.2.1 18 rfl
  have c5_3_19 := Mem.cell (v := .bool t.ex) M5.2.2.2.1 19 rfl
  have z5_3 := Mem.lt M5.2.2.2.1
  go_wp2_with fail
  refine bodyPost_ret (v := .tuple #[.agg (th (th0)), .bool false]) (results_th2 Tryz.results17 _ _ (w.heap.size + 1 + 1) (th0) rfl M5.2.1) rfl ⟨rfl, hB5⟩
def thHid (t : Th) (s : Sc) (R : Nat) : Th := { t with sc := ⟨t.sc.a, R, R⟩, fr := ⟨t.fr.a, cutN s.fr t.fr.n, cutN s.fr t.fr.n⟩, sk := ⟨t.sk.a, cutN s.ht t.sk.n, cutN s.ht t.sk.n⟩, tr := ⟨t.tr.a, cutN s.tr t.tr.n, cutN s.tr t.tr.n⟩, cS := s.lS, cI := s.lI, kS := s.lS, kI := s.lI, pa := s.nm, md := 0, rm := 0, st := 2, on := ⟨#[]⟩, vk := 1, vx := 0, vm := ⟨#[]⟩, vS := ⟨#[]⟩, vI := ⟨#[]⟩, ex := false }
set_option maxRecDepth 100000 in
set_option maxHeartbeats 2000000 in
theorem hide_some (t : Th) (mS mI : ByteArray) (hn9 : t.sc.n ≤ 1000000) (l : List Sc) (j : Nat) (hj : j < l.length) (R : Nat) (hR : R = j + 1) (_ : t.sc.c ≤ maxLen) (hsc : t.sk.n ≤ t.sk.c) (hsc2 : t.sk.c ≤ maxLen) (hfc : t.fr.n ≤ t.fr.c) (hfc2 : t.fr.c ≤ maxLen) (htc : t.tr.n ≤ t.tr.c) (htc2 : t.tr.c ≤ maxLen) (w : World) (h : ScAt w t.sc l) (HKN : ∀ W, Below w.heap.size w W → Calls Tryz.prog 40 #[.agg #[.slice t.sc.a t.sc.n t.sc.c, .string t.cS, .string t.cI], .agg #[.string mS, .string mI]] W fun e w' => e = .returned (.int .i64 (R : Int)) ∧ Below W.heap.size W w') :
    Calls Tryz.prog 17 #[.agg (th t), .agg #[.string mS, .string mI]] w fun e w' => e = .returned (.tuple #[.agg (th (thHid t l[j] R)), .bool true]) ∧ Below w.heap.size w w' := by
  have hn := h.len
  have e1 : ((R : Int) == (t.sc.n : Int) + 1) = false := by rw [hR]; simp; omega
  have e2 : ¬ ((R : Int) = (t.sc.n : Int) + 1) := by omega
  have e3 : ((R : Int) == 0) = false := by rw [hR]; simp; omega
  have e4 : ¬ ((R : Int) = 0) := by omega
  have e5 : IntKind.i64.wrap ((R : Int) - 1) = (j : Int) := by rw [hR, show (((j + 1 : Nat) : Int) - 1) = (j : Int) by omega]; exact IntWalk.i64_in _ ⟨by omega, by omega⟩
  have g0 : (0 : Int) ≤ (R : Int) := by omega
  have g1 : (0 : Int) ≤ (j : Int) := by omega
  have g2 : (j : Int) < (t.sc.n : Int) := by omega
  have HSC := Lib.hid fun (W : World) (hb : Below w.heap.size w W) => h.below hb
  obtain ⟨s, hs⟩ : ∃ s, s = l[j] := ⟨_, rfl⟩
  rw [← hs]
  have HSS := Lib.hid hs
  have HRR := Lib.hid hR
  have HN := Lib.hid hn
  obtain ⟨f, hf⟩ : ∃ f, f = cutN s.fr t.fr.n := ⟨_, rfl⟩
  obtain ⟨h', hh⟩ : ∃ h, h = cutN s.ht t.sk.n := ⟨_, rfl⟩
  obtain ⟨r, hr⟩ : ∃ r, r = cutN s.tr t.tr.n := ⟨_, rfl⟩
  unfold thHid
  rw [← hf, ← hh, ← hr]
  have HQF := Lib.hid hf
  have HQH := Lib.hid hh
  have HQR := Lib.hid hr
  clear hs hR hn h hf hh hr
  have XKN := Lib.hid HKN
  clear HKN
  have hLV := fun w => levels_any t.sc hn9 t.cS t.cI w
  go_enter Tryz.func17, Tryz.ntmps17
  have hB0 := Below.refl w.heap.size w
  have M0 := Mem.nil w
  go_upto_region 1 with (fail)
  refine wp_named ?_
  intro w1 hW1
  have hB1 : Below w.heap.size w w1 := by rw [hW1]; exact (below_al (below_al (below_al hB0 _) _) _)
  have M1 : Mem w1 [(w.heap.size + 1 + 1, .cells (th (th0)) 39), (w.heap.size + 1, .cells #[.string mS, .string mI] 24), (w.heap.size, .cells (th (t)) 39)] := by rw [hW1]; exact (((M0).new' (w.heap.size) (by rfl) (.cells (th (t)) 39)).new' (w.heap.size + 1) (by simp) (.cells #[.string mS, .string mI] 24)).new' (w.heap.size + 1 + 1) (by simp) (.cells (th (th0)) 39)
  clear hW1
  have z1_0 := Mem.lt M1.1
  have c1_1_0 := Mem.cell (v := .string mS) M1.2.1 0 rfl
  have c1_1_1 := Mem.cell (v := .string mI) M1.2.1 1 rfl
  have z1_1 := Mem.lt M1.2.1
  have c1_2_0 := Mem.cell (v := .string t.id) M1.2.2.1 0 rfl
  have c1_2_1 := Mem.cell (v := .string t.pa) M1.2.2.1 1 rfl
  have c1_2_2 := Mem.cell (v := .string t.cS) M1.2.2.1 2 rfl
  have c1_2_3 := Mem.cell (v := .string t.cI) M1.2.2.1 3 rfl
  have c1_2_4 := Mem.cell (v := .string t.kS) M1.2.2.1 4 rfl
  have c1_2_5 := Mem.cell (v := .string t.kI) M1.2.2.1 5 rfl
  have c1_2_6 := Mem.cell (v := .slice t.fr.a t.fr.n t.fr.c) M1.2.2.1 6 rfl
  have c1_2_7 := Mem.cell (v := .slice t.sk.a t.sk.n t.sk.c) M1.2.2.1 7 rfl
  have c1_2_8 := Mem.cell (v := .slice t.tr.a t.tr.n t.tr.c) M1.2.2.1 8 rfl
  have c1_2_9 := Mem.cell (v := .slice t.sc.a t.sc.n t.sc.c) M1.2.2.1 9 rfl
  have c1_2_10 := Mem.cell (v := .int .i64 t.md) M1.2.2.1 10 rfl
  have c1_2_11 := Mem.cell (v := .int .i64 t.rm) M1.2.2.1 11 rfl
  have c1_2_12 := Mem.cell (v := .int .i64 t.st) M1.2.2.1 12 rfl
  have c1_2_13 := Mem.cell (v := .string t.on) M1.2.2.1 13 rfl
  have c1_2_14 := Mem.cell (v := .int .i64 t.vk) M1.2.2.1 14 rfl
  have c1_2_15 := Mem.cell (v := .int .i64 t.vx) M1.2.2.1 15 rfl
  have c1_2_16 := Mem.cell (v := .string t.vm) M1.2.2.1 16 rfl
  have c1_2_17 := Mem.cell (v := .string t.vS) M1.2.2.1 17 rfl
  have c1_2_18 := Mem.cell (v := .string t.vI) M1.2.2.1 18 rfl
  have c1_2_19 := Mem.cell (v := .bool t.ex) M1.2.2.1 19 rfl
  have z1_2 := Mem.lt M1.2.2.1
  refine wp_region_lit ?_
  refine load_th rfl _ rfl (w.heap.size) rfl (t) M1.2.2.1 ?_
  go_wp2_with fail
  refine Calls.named ?_
  intro W2 hW2
  have hB2_ : Below w.heap.size w W2 := by rw [hW2]; exact hB1
  have M2_ := M1
  rw [← hW2] at M2_
  clear hW2
  have ZZ2_0 := Lib.hid (Mem.lt M2_.1)
  have ZZ2_1 := Lib.hid (Mem.lt M2_.2.1)
  have ZZ2_2 := Lib.hid (Mem.lt M2_.2.2.1)
  clear z1_0 c1_1_0 c1_1_1 z1_1 c1_2_0 c1_2_1 c1_2_2 c1_2_3 c1_2_4 c1_2_5 c1_2_6 c1_2_7 c1_2_8 c1_2_9 c1_2_10 c1_2_11 c1_2_12 c1_2_13 c1_2_14 c1_2_15 c1_2_16 c1_2_17 c1_2_18 c1_2_19 z1_2
  refine (parts_any t _).mono ?_
  rintro e w2 ⟨rfl, hb2⟩
  have hB2 := below_then hB2_ hb2
  have M2 := M2_.below hb2
  clear M2_ hB2_ hb2
  have z2_0 := Mem.lt M2.1
  have c2_1_0 := Mem.cell (v := .string mS) M2.2.1 0 rfl
  have c2_1_1 := Mem.cell (v := .string mI) M2.2.1 1 rfl
  have z2_1 := Mem.lt M2.2.1
  have c2_2_0 := Mem.cell (v := .string t.id) M2.2.2.1 0 rfl
  have c2_2_1 := Mem.cell (v := .string t.pa) M2.2.2.1 1 rfl
  have c2_2_2 := Mem.cell (v := .string t.cS) M2.2.2.1 2 rfl
  have c2_2_3 := Mem.cell (v := .string t.cI) M2.2.2.1 3 rfl
  have c2_2_4 := Mem.cell (v := .string t.kS) M2.2.2.1 4 rfl
  have c2_2_5 := Mem.cell (v := .string t.kI) M2.2.2.1 5 rfl
  have c2_2_6 := Mem.cell (v := .slice t.fr.a t.fr.n t.fr.c) M2.2.2.1 6 rfl
  have c2_2_7 := Mem.cell (v := .slice t.sk.a t.sk.n t.sk.c) M2.2.2.1 7 rfl
  have c2_2_8 := Mem.cell (v := .slice t.tr.a t.tr.n t.tr.c) M2.2.2.1 8 rfl
  have c2_2_9 := Mem.cell (v := .slice t.sc.a t.sc.n t.sc.c) M2.2.2.1 9 rfl
  have c2_2_10 := Mem.cell (v := .int .i64 t.md) M2.2.2.1 10 rfl
  have c2_2_11 := Mem.cell (v := .int .i64 t.rm) M2.2.2.1 11 rfl
  have c2_2_12 := Mem.cell (v := .int .i64 t.st) M2.2.2.1 12 rfl
  have c2_2_13 := Mem.cell (v := .string t.on) M2.2.2.1 13 rfl
  have c2_2_14 := Mem.cell (v := .int .i64 t.vk) M2.2.2.1 14 rfl
  have c2_2_15 := Mem.cell (v := .int .i64 t.vx) M2.2.2.1 15 rfl
  have c2_2_16 := Mem.cell (v := .string t.vm) M2.2.2.1 16 rfl
  have c2_2_17 := Mem.cell (v := .string t.vS) M2.2.2.1 17 rfl
  have c2_2_18 := Mem.cell (v := .string t.vI) M2.2.2.1 18 rfl
  have c2_2_19 := Mem.cell (v := .bool t.ex) M2.2.2.1 19 rfl
  have z2_2 := Mem.lt M2.2.2.1
  have yS : w.heap.size + 1 + 1 < w2.heap.size := z2_0
  go_wp2_with fail
  refine Calls.named ?_
  intro W3 hW3
  have hB3_ : Below w.heap.size w W3 := by rw [hW3]; exact (below_al hB2 _)
  have M3_ := (M2).new' (w2.heap.size) (by rfl) (.cells #[.slice t.sc.a t.sc.n t.sc.c, .string t.cS, .string t.cI] 78)
  rw [← hW3] at M3_
  clear hW3
  have ZZ3_0 := Lib.hid (Mem.lt M3_.1)
  have ZZ3_1 := Lib.hid (Mem.lt M3_.2.1)
  have ZZ3_2 := Lib.hid (Mem.lt M3_.2.2.1)
  have ZZ3_3 := Lib.hid (Mem.lt M3_.2.2.2.1)
  clear z2_0 c2_1_0 c2_1_1 z2_1 c2_2_0 c2_2_1 c2_2_2 c2_2_3 c2_2_4 c2_2_5 c2_2_6 c2_2_7 c2_2_8 c2_2_9 c2_2_10 c2_2_11 c2_2_12 c2_2_13 c2_2_14 c2_2_15 c2_2_16 c2_2_17 c2_2_18 c2_2_19 z2_2
  refine (XKN.out _ hB3_).mono ?_
  rintro e w3 ⟨rfl, hb3⟩
  have hB3 := below_then hB3_ hb3
  have M3 := M3_.below hb3
  clear M3_ hB3_ hb3
  have c3_0_0 := Mem.cell (v := .slice t.sc.a t.sc.n t.sc.c) M3.1 0 rfl
  have c3_0_1 := Mem.cell (v := .string t.cS) M3.1 1 rfl
  have c3_0_2 := Mem.cell (v := .string t.cI) M3.1 2 rfl
  have z3_0 := Mem.lt M3.1
  have z3_1 := Mem.lt M3.2.1
  have c3_2_0 := Mem.cell (v := .string mS) M3.2.2.1 0 rfl
  have c3_2_1 := Mem.cell (v := .string mI) M3.2.2.1 1 rfl
  have z3_2 := Mem.lt M3.2.2.1
  have c3_3_0 := Mem.cell (v := .string t.id) M3.2.2.2.1 0 rfl
  have c3_3_1 := Mem.cell (v := .string t.pa) M3.2.2.2.1 1 rfl
  have c3_3_2 := Mem.cell (v := .string t.cS) M3.2.2.2.1 2 rfl
  have c3_3_3 := Mem.cell (v := .string t.cI) M3.2.2.2.1 3 rfl
  have c3_3_4 := Mem.cell (v := .string t.kS) M3.2.2.2.1 4 rfl
  have c3_3_5 := Mem.cell (v := .string t.kI) M3.2.2.2.1 5 rfl
  have c3_3_6 := Mem.cell (v := .slice t.fr.a t.fr.n t.fr.c) M3.2.2.2.1 6 rfl
  have c3_3_7 := Mem.cell (v := .slice t.sk.a t.sk.n t.sk.c) M3.2.2.2.1 7 rfl
  have c3_3_8 := Mem.cell (v := .slice t.tr.a t.tr.n t.tr.c) M3.2.2.2.1 8 rfl
  have c3_3_9 := Mem.cell (v := .slice t.sc.a t.sc.n t.sc.c) M3.2.2.2.1 9 rfl
  have c3_3_10 := Mem.cell (v := .int .i64 t.md) M3.2.2.2.1 10 rfl
  have c3_3_11 := Mem.cell (v := .int .i64 t.rm) M3.2.2.2.1 11 rfl
  have c3_3_12 := Mem.cell (v := .int .i64 t.st) M3.2.2.2.1 12 rfl
  have c3_3_13 := Mem.cell (v := .string t.on) M3.2.2.2.1 13 rfl
  have c3_3_14 := Mem.cell (v := .int .i64 t.vk) M3.2.2.2.1 14 rfl
  have c3_3_15 := Mem.cell (v := .int .i64 t.vx) M3.2.2.2.1 15 rfl
  have c3_3_16 := Mem.cell (v := .string t.vm) M3.2.2.2.1 16 rfl
  have c3_3_17 := Mem.cell (v := .string t.vS) M3.2.2.2.1 17 rfl
  have c3_3_18 := Mem.cell (v := .string t.vI) M3.2.2.2.1 18 rfl
  have c3_3_19 := Mem.cell (v := .bool t.ex) M3.2.2.2.1 19 rfl
  have z3_3 := Mem.lt M3.2.2.2.1
  go_wp2_with fail
  refine Calls.named ?_
  intro W4 hW4
  have hB4_ : Below w.heap.size w W4 := by rw [hW4]; exact hB3
  have M4_ := M3
  rw [← hW4] at M4_
  clear hW4
  have ZZ4_0 := Lib.hid (Mem.lt M4_.1)
  have ZZ4_1 := Lib.hid (Mem.lt M4_.2.1)
  have ZZ4_2 := Lib.hid (Mem.lt M4_.2.2.1)
  have ZZ4_3 := Lib.hid (Mem.lt M4_.2.2.2.1)
  clear c3_0_0 c3_0_1 c3_0_2 z3_0 z3_1 c3_2_0 c3_2_1 z3_2 c3_3_0 c3_3_1 c3_3_2 c3_3_3 c3_3_4 c3_3_5 c3_3_6 c3_3_7 c3_3_8 c3_3_9 c3_3_10 c3_3_11 c3_3_12 c3_3_13 c3_3_14 c3_3_15 c3_3_16 c3_3_17 c3_3_18 c3_3_19 z3_3
  refine (hLV _).mono ?_
  rintro e w4 ⟨rfl, hb4⟩
  have hB4 := below_then hB4_ hb4
  have M4 := M4_.below hb4
  clear M4_ hB4_ hb4
  have c4_0_0 := Mem.cell (v := .slice t.sc.a t.sc.n t.sc.c) M4.1 0 rfl
  have c4_0_1 := Mem.cell (v := .string t.cS) M4.1 1 rfl
  have c4_0_2 := Mem.cell (v := .string t.cI) M4.1 2 rfl
  have z4_0 := Mem.lt M4.1
  have z4_1 := Mem.lt M4.2.1
  have c4_2_0 := Mem.cell (v := .string mS) M4.2.2.1 0 rfl
  have c4_2_1 := Mem.cell (v := .string mI) M4.2.2.1 1 rfl
  have z4_2 := Mem.lt M4.2.2.1
  have c4_3_0 := Mem.cell (v := .string t.id) M4.2.2.2.1 0 rfl
  have c4_3_1 := Mem.cell (v := .string t.pa) M4.2.2.2.1 1 rfl
  have c4_3_2 := Mem.cell (v := .string t.cS) M4.2.2.2.1 2 rfl
  have c4_3_3 := Mem.cell (v := .string t.cI) M4.2.2.2.1 3 rfl
  have c4_3_4 := Mem.cell (v := .string t.kS) M4.2.2.2.1 4 rfl
  have c4_3_5 := Mem.cell (v := .string t.kI) M4.2.2.2.1 5 rfl
  have c4_3_6 := Mem.cell (v := .slice t.fr.a t.fr.n t.fr.c) M4.2.2.2.1 6 rfl
  have c4_3_7 := Mem.cell (v := .slice t.sk.a t.sk.n t.sk.c) M4.2.2.2.1 7 rfl
  have c4_3_8 := Mem.cell (v := .slice t.tr.a t.tr.n t.tr.c) M4.2.2.2.1 8 rfl
  have c4_3_9 := Mem.cell (v := .slice t.sc.a t.sc.n t.sc.c) M4.2.2.2.1 9 rfl
  have c4_3_10 := Mem.cell (v := .int .i64 t.md) M4.2.2.2.1 10 rfl
  have c4_3_11 := Mem.cell (v := .int .i64 t.rm) M4.2.2.2.1 11 rfl
  have c4_3_12 := Mem.cell (v := .int .i64 t.st) M4.2.2.2.1 12 rfl
  have c4_3_13 := Mem.cell (v := .string t.on) M4.2.2.2.1 13 rfl
  have c4_3_14 := Mem.cell (v := .int .i64 t.vk) M4.2.2.2.1 14 rfl
  have c4_3_15 := Mem.cell (v := .int .i64 t.vx) M4.2.2.2.1 15 rfl
  have c4_3_16 := Mem.cell (v := .string t.vm) M4.2.2.2.1 16 rfl
  have c4_3_17 := Mem.cell (v := .string t.vS) M4.2.2.2.1 17 rfl
  have c4_3_18 := Mem.cell (v := .string t.vI) M4.2.2.2.1 18 rfl
  have c4_3_19 := Mem.cell (v := .bool t.ex) M4.2.2.2.1 19 rfl
  have z4_3 := Mem.lt M4.2.2.2.1
  go_upto_region 8 with (fail)
  obtain ⟨b, off, hva, hvc, hbl, hrg⟩ := (HSC.out _ hB4).row hj
  rw [← HSS.out] at hrg
  rw [hva] at c4_3_9
  refine wp_region_lit ?_
  iterate 15 go_step
  refine load_sc rfl _ rfl b (off + j * 14) rfl s hrg ?_
  clear hrg
  iterate 3 go_step
  have yT : w2.heap.size < w4.heap.size := z4_0
  refine wpl_named ?_
  intro w5 hW5
  have hB5 : Below w.heap.size w w5 := by rw [hW5]; exact (below_al hB4 _)
  have M5 : Mem w5 [(w4.heap.size, .cells (sc (sc0)) 56), (w2.heap.size, .cells #[.slice t.sc.a t.sc.n t.sc.c, .string t.cS, .string t.cI] 78), (w.heap.size + 1 + 1, .cells (th (th0)) 39), (w.heap.size + 1, .cells #[.string mS, .string mI] 24), (w.heap.size, .cells (th (t)) 39)] := by rw [hW5]; exact (M4).new' (w4.heap.size) (by rfl) (.cells (sc (sc0)) 56)
  clear c4_0_0 c4_0_1 c4_0_2 z4_0 z4_1 c4_2_0 c4_2_1 z4_2 c4_3_0 c4_3_1 c4_3_2 c4_3_3 c4_3_4 c4_3_5 c4_3_6 c4_3_7 c4_3_8 c4_3_9 c4_3_10 c4_3_11 c4_3_12 c4_3_13 c4_3_14 c4_3_15 c4_3_16 c4_3_17 c4_3_18 c4_3_19 z4_3
  clear hW5
  have z5_0 := Mem.lt M5.1
  have c5_1_0 := Mem.cell (v := .slice t.sc.a t.sc.n t.sc.c) M5.2.1 0 rfl
  have c5_1_1 := Mem.cell (v := .string t.cS) M5.2.1 1 rfl
  have c5_1_2 := Mem.cell (v := .string t.cI) M5.2.1 2 rfl
  have z5_1 := Mem.lt M5.2.1
  have z5_2 := Mem.lt M5.2.2.1
  have c5_3_0 := Mem.cell (v := .string mS) M5.2.2.2.1 0 rfl
  have c5_3_1 := Mem.cell (v := .string mI) M5.2.2.2.1 1 rfl
  have z5_3 := Mem.lt M5.2.2.2.1
  have c5_4_0 := Mem.cell (v := .string t.id) M5.2.2.2.2.1 0 rfl
  have c5_4_1 := Mem.cell (v := .string t.pa) M5.2.2.2.2.1 1 rfl
  have c5_4_2 := Mem.cell (v := .string t.cS) M5.2.2.2.2.1 2 rfl
  have c5_4_3 := Mem.cell (v := .string t.cI) M5.2.2.2.2.1 3 rfl
  have c5_4_4 := Mem.cell (v := .string t.kS) M5.2.2.2.2.1 4 rfl
  have c5_4_5 := Mem.cell (v := .string t.kI) M5.2.2.2.2.1 5 rfl
  have c5_4_6 := Mem.cell (v := .slice t.fr.a t.fr.n t.fr.c) M5.2.2.2.2.1 6 rfl
  have c5_4_7 := Mem.cell (v := .slice t.sk.a t.sk.n t.sk.c) M5.2.2.2.2.1 7 rfl
  have c5_4_8 := Mem.cell (v := .slice t.tr.a t.tr.n t.tr.c) M5.2.2.2.2.1 8 rfl
  have c5_4_9 := Mem.cell (v := .slice t.sc.a t.sc.n t.sc.c) M5.2.2.2.2.1 9 rfl
  have c5_4_10 := Mem.cell (v := .int .i64 t.md) M5.2.2.2.2.1 10 rfl
  have c5_4_11 := Mem.cell (v := .int .i64 t.rm) M5.2.2.2.2.1 11 rfl
  have c5_4_12 := Mem.cell (v := .int .i64 t.st) M5.2.2.2.2.1 12 rfl
  have c5_4_13 := Mem.cell (v := .string t.on) M5.2.2.2.2.1 13 rfl
  have c5_4_14 := Mem.cell (v := .int .i64 t.vk) M5.2.2.2.2.1 14 rfl
  have c5_4_15 := Mem.cell (v := .int .i64 t.vx) M5.2.2.2.2.1 15 rfl
  have c5_4_16 := Mem.cell (v := .string t.vm) M5.2.2.2.2.1 16 rfl
  have c5_4_17 := Mem.cell (v := .string t.vS) M5.2.2.2.2.1 17 rfl
  have c5_4_18 := Mem.cell (v := .string t.vI) M5.2.2.2.2.1 18 rfl
  have c5_4_19 := Mem.cell (v := .bool t.ex) M5.2.2.2.2.1 19 rfl
  have z5_4 := Mem.lt M5.2.2.2.2.1
  refine store_sc rfl _ _ rfl (w4.heap.size) rfl (sc0) (s) rfl M5.1 ?_
  intro w6 hW6
  have hB6 : Below w.heap.size w w6 := by rw [hW6]; exact below_setCells (B := w.heap.size) hB5 (b := w4.heap.size) (by have := hB5.size; omega) 0 _
  have M6 : Mem w6 [(w4.heap.size, .cells (sc (s)) 56), (w2.heap.size, .cells #[.slice t.sc.a t.sc.n t.sc.c, .string t.cS, .string t.cI] 78), (w.heap.size + 1 + 1, .cells (th (th0)) 39), (w.heap.size + 1, .cells #[.string mS, .string mI] 24), (w.heap.size, .cells (th (t)) 39)] := by rw [hW6]; exact ⟨set_sc M5.1 _, (setCells_other _ 0 _ _ (by omega)).trans M5.2.1, (setCells_other _ 0 _ _ (by omega)).trans M5.2.2.1, (setCells_other _ 0 _ _ (by omega)).trans M5.2.2.2.1, (setCells_other _ 0 _ _ (by omega)).trans M5.2.2.2.2.1, trivial⟩
  clear z5_0 c5_1_0 c5_1_1 c5_1_2 z5_1 z5_2 c5_3_0 c5_3_1 z5_3 c5_4_0 c5_4_1 c5_4_2 c5_4_3 c5_4_4 c5_4_5 c5_4_6 c5_4_7 c5_4_8 c5_4_9 c5_4_10 c5_4_11 c5_4_12 c5_4_13 c5_4_14 c5_4_15 c5_4_16 c5_4_17 c5_4_18 c5_4_19 z5_4
  clear hW6
  have c6_0_0 := Mem.cell (v := .string s.nm) M6.1 0 rfl
  have c6_0_1 := Mem.cell (v := .string s.lS) M6.1 1 rfl
  have c6_0_2 := Mem.cell (v := .string s.lI) M6.1 2 rfl
  have c6_0_3 := Mem.cell (v := .int .i64 s.un) M6.1 3 rfl
  have c6_0_4 := Mem.cell (v := .int .i64 s.fr) M6.1 4 rfl
  have c6_0_5 := Mem.cell (v := .int .i64 s.ht) M6.1 5 rfl
  have c6_0_6 := Mem.cell (v := .int .i64 s.tr) M6.1 6 rfl
  have c6_0_7 := Mem.cell (v := .string s.cS) M6.1 7 rfl
  have c6_0_8 := Mem.cell (v := .string s.cI) M6.1 8 rfl
  have c6_0_9 := Mem.cell (v := .string s.kS) M6.1 9 rfl
  have c6_0_10 := Mem.cell (v := .string s.kI) M6.1 10 rfl
  have c6_0_11 := Mem.cell (v := .string s.pa) M6.1 11 rfl
  have c6_0_12 := Mem.cell (v := .int .i64 s.md) M6.1 12 rfl
  have c6_0_13 := Mem.cell (v := .int .i64 s.rm) M6.1 13 rfl
  have z6_0 := Mem.lt M6.1
  have c6_1_0 := Mem.cell (v := .slice t.sc.a t.sc.n t.sc.c) M6.2.1 0 rfl
  have c6_1_1 := Mem.cell (v := .string t.cS) M6.2.1 1 rfl
  have c6_1_2 := Mem.cell (v := .string t.cI) M6.2.1 2 rfl
  have z6_1 := Mem.lt M6.2.1
  have z6_2 := Mem.lt M6.2.2.1
  have c6_3_0 := Mem.cell (v := .string mS) M6.2.2.2.1 0 rfl
  have c6_3_1 := Mem.cell (v := .string mI) M6.2.2.2.1 1 rfl
  have z6_3 := Mem.lt M6.2.2.2.1
  have c6_4_0 := Mem.cell (v := .string t.id) M6.2.2.2.2.1 0 rfl
  have c6_4_1 := Mem.cell (v := .string t.pa) M6.2.2.2.2.1 1 rfl
  have c6_4_2 := Mem.cell (v := .string t.cS) M6.2.2.2.2.1 2 rfl
  have c6_4_3 := Mem.cell (v := .string t.cI) M6.2.2.2.2.1 3 rfl
  have c6_4_4 := Mem.cell (v := .string t.kS) M6.2.2.2.2.1 4 rfl
  have c6_4_5 := Mem.cell (v := .string t.kI) M6.2.2.2.2.1 5 rfl
  have c6_4_6 := Mem.cell (v := .slice t.fr.a t.fr.n t.fr.c) M6.2.2.2.2.1 6 rfl
  have c6_4_7 := Mem.cell (v := .slice t.sk.a t.sk.n t.sk.c) M6.2.2.2.2.1 7 rfl
  have c6_4_8 := Mem.cell (v := .slice t.tr.a t.tr.n t.tr.c) M6.2.2.2.2.1 8 rfl
  have c6_4_9 := Mem.cell (v := .slice t.sc.a t.sc.n t.sc.c) M6.2.2.2.2.1 9 rfl
  have c6_4_10 := Mem.cell (v := .int .i64 t.md) M6.2.2.2.2.1 10 rfl
  have c6_4_11 := Mem.cell (v := .int .i64 t.rm) M6.2.2.2.2.1 11 rfl
  have c6_4_12 := Mem.cell (v := .int .i64 t.st) M6.2.2.2.2.1 12 rfl
  have c6_4_13 := Mem.cell (v := .string t.on) M6.2.2.2.2.1 13 rfl
  have c6_4_14 := Mem.cell (v := .int .i64 t.vk) M6.2.2.2.2.1 14 rfl
  have c6_4_15 := Mem.cell (v := .int .i64 t.vx) M6.2.2.2.2.1 15 rfl
  have c6_4_16 := Mem.cell (v := .string t.vm) M6.2.2.2.2.1 16 rfl
  have c6_4_17 := Mem.cell (v := .string t.vS) M6.2.2.2.2.1 17 rfl
  have c6_4_18 := Mem.cell (v := .string t.vI) M6.2.2.2.2.1 18 rfl
  have c6_4_19 := Mem.cell (v := .bool t.ex) M6.2.2.2.2.1 19 rfl
  have z6_4 := Mem.lt M6.2.2.2.2.1
  have hne1 : w4.heap.size ≠ w.heap.size := by omega
  have hne2 : w.heap.size ≠ w4.heap.size := by omega
  have g4 : (R : Int) ≤ (t.sc.c : Int) := by have := HRR.out; omega
  have HVA := Lib.hid hva
  clear hva
  have f6 := fun j => Mem.free M6.2.2.2.2.1 j
  go_upto_region 10 with (go_at_call 28; (with_reducible refine (clip_any t.sc.a R t.sc.c (by omega) _).mono ?_); rintro e _ ⟨rfl, rfl⟩)
  clear f6
  have hX6_0 : (w6.setCells (w.heap.size) 9 [.slice t.sc.a R R]).heap[w.heap.size]? = some (.cells (th ({ t with sc := ⟨t.sc.a, R, R⟩ })) 39) := by rw [setCells_block [.slice t.sc.a R R] 9 _ _ ((M6).2.2.2.2.1) (by simp)]; rfl
  have hY6_0 := below_setCells (B := w.heap.size) hB6 (b := w.heap.size) (by have := hB6.size; omega) 9 [.slice t.sc.a R R]
  refine wp_named ?_
  intro w7 hW7
  have hB7 : Below w.heap.size w w7 := by rw [hW7]; exact hY6_0
  have M7 : Mem w7 [(w4.heap.size, .cells (sc (s)) 56), (w2.heap.size, .cells #[.slice t.sc.a t.sc.n t.sc.c, .string t.cS, .string t.cI] 78), (w.heap.size + 1 + 1, .cells (th (th0)) 39), (w.heap.size + 1, .cells #[.string mS, .string mI] 24), (w.heap.size, .cells (th ({ t with sc := ⟨t.sc.a, R, R⟩ })) 39)] := by rw [hW7]; exact ⟨(setCells_other [.slice t.sc.a R R] 9 _ _ (by omega)).trans ((M6).1), (setCells_other [.slice t.sc.a R R] 9 _ _ (by omega)).trans ((M6).2.1), (setCells_other [.slice t.sc.a R R] 9 _ _ (by omega)).trans ((M6).2.2.1), (setCells_other [.slice t.sc.a R R] 9 _ _ (by omega)).trans ((M6).2.2.2.1), hX6_0, trivial⟩
  clear c6_0_0 c6_0_1 c6_0_2 c6_0_3 c6_0_4 c6_0_5 c6_0_6 c6_0_7 c6_0_8 c6_0_9 c6_0_10 c6_0_11 c6_0_12 c6_0_13 z6_0 c6_1_0 c6_1_1 c6_1_2 z6_1 z6_2 c6_3_0 c6_3_1 z6_3 c6_4_0 c6_4_1 c6_4_2 c6_4_3 c6_4_4 c6_4_5 c6_4_6 c6_4_7 c6_4_8 c6_4_9 c6_4_10 c6_4_11 c6_4_12 c6_4_13 c6_4_14 c6_4_15 c6_4_16 c6_4_17 c6_4_18 c6_4_19 z6_4
  clear hW7 hX6_0 hY6_0
  have c7_0_0 := Mem.cell (v := .string s.nm) M7.1 0 rfl
  have c7_0_1 := Mem.cell (v := .string s.lS) M7.1 1 rfl
  have c7_0_2 := Mem.cell (v := .string s.lI) M7.1 2 rfl
  have c7_0_3 := Mem.cell (v := .int .i64 s.un) M7.1 3 rfl
  have c7_0_4 := Mem.cell (v := .int .i64 s.fr) M7.1 4 rfl
  have c7_0_5 := Mem.cell (v := .int .i64 s.ht) M7.1 5 rfl
  have c7_0_6 := Mem.cell (v := .int .i64 s.tr) M7.1 6 rfl
  have c7_0_7 := Mem.cell (v := .string s.cS) M7.1 7 rfl
  have c7_0_8 := Mem.cell (v := .string s.cI) M7.1 8 rfl
  have c7_0_9 := Mem.cell (v := .string s.kS) M7.1 9 rfl
  have c7_0_10 := Mem.cell (v := .string s.kI) M7.1 10 rfl
  have c7_0_11 := Mem.cell (v := .string s.pa) M7.1 11 rfl
  have c7_0_12 := Mem.cell (v := .int .i64 s.md) M7.1 12 rfl
  have c7_0_13 := Mem.cell (v := .int .i64 s.rm) M7.1 13 rfl
  have z7_0 := Mem.lt M7.1
  have c7_1_0 := Mem.cell (v := .slice t.sc.a t.sc.n t.sc.c) M7.2.1 0 rfl
  have c7_1_1 := Mem.cell (v := .string t.cS) M7.2.1 1 rfl
  have c7_1_2 := Mem.cell (v := .string t.cI) M7.2.1 2 rfl
  have z7_1 := Mem.lt M7.2.1
  have z7_2 := Mem.lt M7.2.2.1
  have c7_3_0 := Mem.cell (v := .string mS) M7.2.2.2.1 0 rfl
  have c7_3_1 := Mem.cell (v := .string mI) M7.2.2.2.1 1 rfl
  have z7_3 := Mem.lt M7.2.2.2.1
  have c7_4_0 := Mem.cell (v := .string t.id) M7.2.2.2.2.1 0 rfl
  have c7_4_1 := Mem.cell (v := .string t.pa) M7.2.2.2.2.1 1 rfl
  have c7_4_2 := Mem.cell (v := .string t.cS) M7.2.2.2.2.1 2 rfl
  have c7_4_3 := Mem.cell (v := .string t.cI) M7.2.2.2.2.1 3 rfl
  have c7_4_4 := Mem.cell (v := .string t.kS) M7.2.2.2.2.1 4 rfl
  have c7_4_5 := Mem.cell (v := .string t.kI) M7.2.2.2.2.1 5 rfl
  have c7_4_6 := Mem.cell (v := .slice t.fr.a t.fr.n t.fr.c) M7.2.2.2.2.1 6 rfl
  have c7_4_7 := Mem.cell (v := .slice t.sk.a t.sk.n t.sk.c) M7.2.2.2.2.1 7 rfl
  have c7_4_8 := Mem.cell (v := .slice t.tr.a t.tr.n t.tr.c) M7.2.2.2.2.1 8 rfl
  have c7_4_9 := Mem.cell (v := .slice t.sc.a R R) M7.2.2.2.2.1 9 rfl
  have c7_4_10 := Mem.cell (v := .int .i64 t.md) M7.2.2.2.2.1 10 rfl
  have c7_4_11 := Mem.cell (v := .int .i64 t.rm) M7.2.2.2.2.1 11 rfl
  have c7_4_12 := Mem.cell (v := .int .i64 t.st) M7.2.2.2.2.1 12 rfl
  have c7_4_13 := Mem.cell (v := .string t.on) M7.2.2.2.2.1 13 rfl
  have c7_4_14 := Mem.cell (v := .int .i64 t.vk) M7.2.2.2.2.1 14 rfl
  have c7_4_15 := Mem.cell (v := .int .i64 t.vx) M7.2.2.2.2.1 15 rfl
  have c7_4_16 := Mem.cell (v := .string t.vm) M7.2.2.2.2.1 16 rfl
  have c7_4_17 := Mem.cell (v := .string t.vS) M7.2.2.2.2.1 17 rfl
  have c7_4_18 := Mem.cell (v := .string t.vI) M7.2.2.2.2.1 18 rfl
  have c7_4_19 := Mem.cell (v := .bool t.ex) M7.2.2.2.2.1 19 rfl
  have z7_4 := Mem.lt M7.2.2.2.2.1
  go_wp2_with fail
  refine Calls.named ?_
  intro W8 hW8
  have hB8_ : Below w.heap.size w W8 := by rw [hW8]; exact hB7
  have M8_ := M7
  rw [← hW8] at M8_
  clear hW8
  have ZZ8_0 := Lib.hid (Mem.lt M8_.1)
  have ZZ8_1 := Lib.hid (Mem.lt M8_.2.1)
  have ZZ8_2 := Lib.hid (Mem.lt M8_.2.2.1)
  have ZZ8_3 := Lib.hid (Mem.lt M8_.2.2.2.1)
  have ZZ8_4 := Lib.hid (Mem.lt M8_.2.2.2.2.1)
  clear c7_0_0 c7_0_1 c7_0_2 c7_0_3 c7_0_4 c7_0_5 c7_0_6 c7_0_7 c7_0_8 c7_0_9 c7_0_10 c7_0_11 c7_0_12 c7_0_13 z7_0 c7_1_0 c7_1_1 c7_1_2 z7_1 z7_2 c7_3_0 c7_3_1 z7_3 c7_4_0 c7_4_1 c7_4_2 c7_4_3 c7_4_4 c7_4_5 c7_4_6 c7_4_7 c7_4_8 c7_4_9 c7_4_10 c7_4_11 c7_4_12 c7_4_13 c7_4_14 c7_4_15 c7_4_16 c7_4_17 c7_4_18 c7_4_19 z7_4
  refine (cutC_any t.fr.a t.sk.a t.tr.a t.fr.n t.fr.c t.sk.n t.sk.c t.tr.n t.tr.c s.fr s.ht s.tr hfc hfc2 hsc hsc2 htc htc2 _).mono ?_
  rw [← HQF.out, ← HQH.out, ← HQR.out]
  rintro e w8 ⟨rfl, hb8⟩
  have hB8 := below_then hB8_ hb8
  have M8 := M8_.below hb8
  clear M8_ hB8_ hb8
  have c8_0_0 := Mem.cell (v := .string s.nm) M8.1 0 rfl
  have c8_0_1 := Mem.cell (v := .string s.lS) M8.1 1 rfl
  have c8_0_2 := Mem.cell (v := .string s.lI) M8.1 2 rfl
  have c8_0_3 := Mem.cell (v := .int .i64 s.un) M8.1 3 rfl
  have c8_0_4 := Mem.cell (v := .int .i64 s.fr) M8.1 4 rfl
  have c8_0_5 := Mem.cell (v := .int .i64 s.ht) M8.1 5 rfl
  have c8_0_6 := Mem.cell (v := .int .i64 s.tr) M8.1 6 rfl
  have c8_0_7 := Mem.cell (v := .string s.cS) M8.1 7 rfl
  have c8_0_8 := Mem.cell (v := .string s.cI) M8.1 8 rfl
  have c8_0_9 := Mem.cell (v := .string s.kS) M8.1 9 rfl
  have c8_0_10 := Mem.cell (v := .string s.kI) M8.1 10 rfl
  have c8_0_11 := Mem.cell (v := .string s.pa) M8.1 11 rfl
  have c8_0_12 := Mem.cell (v := .int .i64 s.md) M8.1 12 rfl
  have c8_0_13 := Mem.cell (v := .int .i64 s.rm) M8.1 13 rfl
  have z8_0 := Mem.lt M8.1
  have c8_1_0 := Mem.cell (v := .slice t.sc.a t.sc.n t.sc.c) M8.2.1 0 rfl
  have c8_1_1 := Mem.cell (v := .string t.cS) M8.2.1 1 rfl
  have c8_1_2 := Mem.cell (v := .string t.cI) M8.2.1 2 rfl
  have z8_1 := Mem.lt M8.2.1
  have z8_2 := Mem.lt M8.2.2.1
  have c8_3_0 := Mem.cell (v := .string mS) M8.2.2.2.1 0 rfl
  have c8_3_1 := Mem.cell (v := .string mI) M8.2.2.2.1 1 rfl
  have z8_3 := Mem.lt M8.2.2.2.1
  have c8_4_0 := Mem.cell (v := .string t.id) M8.2.2.2.2.1 0 rfl
  have c8_4_1 := Mem.cell (v := .string t.pa) M8.2.2.2.2.1 1 rfl
  have c8_4_2 := Mem.cell (v := .string t.cS) M8.2.2.2.2.1 2 rfl
  have c8_4_3 := Mem.cell (v := .string t.cI) M8.2.2.2.2.1 3 rfl
  have c8_4_4 := Mem.cell (v := .string t.kS) M8.2.2.2.2.1 4 rfl
  have c8_4_5 := Mem.cell (v := .string t.kI) M8.2.2.2.2.1 5 rfl
  have c8_4_6 := Mem.cell (v := .slice t.fr.a t.fr.n t.fr.c) M8.2.2.2.2.1 6 rfl
  have c8_4_7 := Mem.cell (v := .slice t.sk.a t.sk.n t.sk.c) M8.2.2.2.2.1 7 rfl
  have c8_4_8 := Mem.cell (v := .slice t.tr.a t.tr.n t.tr.c) M8.2.2.2.2.1 8 rfl
  have c8_4_9 := Mem.cell (v := .slice t.sc.a R R) M8.2.2.2.2.1 9 rfl
  have c8_4_10 := Mem.cell (v := .int .i64 t.md) M8.2.2.2.2.1 10 rfl
  have c8_4_11 := Mem.cell (v := .int .i64 t.rm) M8.2.2.2.2.1 11 rfl
  have c8_4_12 := Mem.cell (v := .int .i64 t.st) M8.2.2.2.2.1 12 rfl
  have c8_4_13 := Mem.cell (v := .string t.on) M8.2.2.2.2.1 13 rfl
  have c8_4_14 := Mem.cell (v := .int .i64 t.vk) M8.2.2.2.2.1 14 rfl
  have c8_4_15 := Mem.cell (v := .int .i64 t.vx) M8.2.2.2.2.1 15 rfl
  have c8_4_16 := Mem.cell (v := .string t.vm) M8.2.2.2.2.1 16 rfl
  have c8_4_17 := Mem.cell (v := .string t.vS) M8.2.2.2.2.1 17 rfl
  have c8_4_18 := Mem.cell (v := .string t.vI) M8.2.2.2.2.1 18 rfl
  have c8_4_19 := Mem.cell (v := .bool t.ex) M8.2.2.2.2.1 19 rfl
  have z8_4 := Mem.lt M8.2.2.2.2.1
  have f9 := fun j => Mem.free M8.2.2.2.2.1 j
  go_upto_region 11 with (fail)
  clear f9
  have hX8_0 : (w8.setCells (w.heap.size) 6 [.slice t.fr.a f f, .slice t.sk.a h' h', .slice t.tr.a r r]).heap[w.heap.size]? = some (.cells (th ({ t with sc := ⟨t.sc.a, R, R⟩, fr := ⟨t.fr.a, f, f⟩, sk := ⟨t.sk.a, h', h'⟩, tr := ⟨t.tr.a, r, r⟩ })) 39) := by rw [setCells_block [.slice t.fr.a f f, .slice t.sk.a h' h', .slice t.tr.a r r] 6 _ _ ((M8).2.2.2.2.1) (by simp)]; rfl
  have hY8_0 := below_setCells (B := w.heap.size) hB8 (b := w.heap.size) (by have := hB8.size; omega) 6 [.slice t.fr.a f f, .slice t.sk.a h' h', .slice t.tr.a r r]
  refine wp_named ?_
  intro w9 hW9
  have hB9 : Below w.heap.size w w9 := by rw [hW9]; exact hY8_0
  have M9 : Mem w9 [(w4.heap.size, .cells (sc (s)) 56), (w2.heap.size, .cells #[.slice t.sc.a t.sc.n t.sc.c, .string t.cS, .string t.cI] 78), (w.heap.size + 1 + 1, .cells (th (th0)) 39), (w.heap.size + 1, .cells #[.string mS, .string mI] 24), (w.heap.size, .cells (th ({ t with sc := ⟨t.sc.a, R, R⟩, fr := ⟨t.fr.a, f, f⟩, sk := ⟨t.sk.a, h', h'⟩, tr := ⟨t.tr.a, r, r⟩ })) 39)] := by rw [hW9]; exact ⟨(setCells_other [.slice t.fr.a f f, .slice t.sk.a h' h', .slice t.tr.a r r] 6 _ _ (by omega)).trans ((M8).1), (setCells_other [.slice t.fr.a f f, .slice t.sk.a h' h', .slice t.tr.a r r] 6 _ _ (by omega)).trans ((M8).2.1), (setCells_other [.slice t.fr.a f f, .slice t.sk.a h' h', .slice t.tr.a r r] 6 _ _ (by omega)).trans ((M8).2.2.1), (setCells_other [.slice t.fr.a f f, .slice t.sk.a h' h', .slice t.tr.a r r] 6 _ _ (by omega)).trans ((M8).2.2.2.1), hX8_0, trivial⟩
  clear c8_0_0 c8_0_1 c8_0_2 c8_0_3 c8_0_4 c8_0_5 c8_0_6 c8_0_7 c8_0_8 c8_0_9 c8_0_10 c8_0_11 c8_0_12 c8_0_13 z8_0 c8_1_0 c8_1_1 c8_1_2 z8_1 z8_2 c8_3_0 c8_3_1 z8_3 c8_4_0 c8_4_1 c8_4_2 c8_4_3 c8_4_4 c8_4_5 c8_4_6 c8_4_7 c8_4_8 c8_4_9 c8_4_10 c8_4_11 c8_4_12 c8_4_13 c8_4_14 c8_4_15 c8_4_16 c8_4_17 c8_4_18 c8_4_19 z8_4
  clear hW9 hX8_0 hY8_0
  have c9_0_0 := Mem.cell (v := .string s.nm) M9.1 0 rfl
  have c9_0_1 := Mem.cell (v := .string s.lS) M9.1 1 rfl
  have c9_0_2 := Mem.cell (v := .string s.lI) M9.1 2 rfl
  have c9_0_3 := Mem.cell (v := .int .i64 s.un) M9.1 3 rfl
  have c9_0_4 := Mem.cell (v := .int .i64 s.fr) M9.1 4 rfl
  have c9_0_5 := Mem.cell (v := .int .i64 s.ht) M9.1 5 rfl
  have c9_0_6 := Mem.cell (v := .int .i64 s.tr) M9.1 6 rfl
  have c9_0_7 := Mem.cell (v := .string s.cS) M9.1 7 rfl
  have c9_0_8 := Mem.cell (v := .string s.cI) M9.1 8 rfl
  have c9_0_9 := Mem.cell (v := .string s.kS) M9.1 9 rfl
  have c9_0_10 := Mem.cell (v := .string s.kI) M9.1 10 rfl
  have c9_0_11 := Mem.cell (v := .string s.pa) M9.1 11 rfl
  have c9_0_12 := Mem.cell (v := .int .i64 s.md) M9.1 12 rfl
  have c9_0_13 := Mem.cell (v := .int .i64 s.rm) M9.1 13 rfl
  have z9_0 := Mem.lt M9.1
  have c9_1_0 := Mem.cell (v := .slice t.sc.a t.sc.n t.sc.c) M9.2.1 0 rfl
  have c9_1_1 := Mem.cell (v := .string t.cS) M9.2.1 1 rfl
  have c9_1_2 := Mem.cell (v := .string t.cI) M9.2.1 2 rfl
  have z9_1 := Mem.lt M9.2.1
  have z9_2 := Mem.lt M9.2.2.1
  have c9_3_0 := Mem.cell (v := .string mS) M9.2.2.2.1 0 rfl
  have c9_3_1 := Mem.cell (v := .string mI) M9.2.2.2.1 1 rfl
  have z9_3 := Mem.lt M9.2.2.2.1
  have c9_4_0 := Mem.cell (v := .string t.id) M9.2.2.2.2.1 0 rfl
  have c9_4_1 := Mem.cell (v := .string t.pa) M9.2.2.2.2.1 1 rfl
  have c9_4_2 := Mem.cell (v := .string t.cS) M9.2.2.2.2.1 2 rfl
  have c9_4_3 := Mem.cell (v := .string t.cI) M9.2.2.2.2.1 3 rfl
  have c9_4_4 := Mem.cell (v := .string t.kS) M9.2.2.2.2.1 4 rfl
  have c9_4_5 := Mem.cell (v := .string t.kI) M9.2.2.2.2.1 5 rfl
  have c9_4_6 := Mem.cell (v := .slice t.fr.a f f) M9.2.2.2.2.1 6 rfl
  have c9_4_7 := Mem.cell (v := .slice t.sk.a h' h') M9.2.2.2.2.1 7 rfl
  have c9_4_8 := Mem.cell (v := .slice t.tr.a r r) M9.2.2.2.2.1 8 rfl
  have c9_4_9 := Mem.cell (v := .slice t.sc.a R R) M9.2.2.2.2.1 9 rfl
  have c9_4_10 := Mem.cell (v := .int .i64 t.md) M9.2.2.2.2.1 10 rfl
  have c9_4_11 := Mem.cell (v := .int .i64 t.rm) M9.2.2.2.2.1 11 rfl
  have c9_4_12 := Mem.cell (v := .int .i64 t.st) M9.2.2.2.2.1 12 rfl
  have c9_4_13 := Mem.cell (v := .string t.on) M9.2.2.2.2.1 13 rfl
  have c9_4_14 := Mem.cell (v := .int .i64 t.vk) M9.2.2.2.2.1 14 rfl
  have c9_4_15 := Mem.cell (v := .int .i64 t.vx) M9.2.2.2.2.1 15 rfl
  have c9_4_16 := Mem.cell (v := .string t.vm) M9.2.2.2.2.1 16 rfl
  have c9_4_17 := Mem.cell (v := .string t.vS) M9.2.2.2.2.1 17 rfl
  have c9_4_18 := Mem.cell (v := .string t.vI) M9.2.2.2.2.1 18 rfl
  have c9_4_19 := Mem.cell (v := .bool t.ex) M9.2.2.2.2.1 19 rfl
  have z9_4 := Mem.lt M9.2.2.2.2.1
  have f10 := fun j => Mem.free M9.2.2.2.2.1 j
  go_upto_region 12 with (fail)
  clear f10
  have hX9_0 : (w9.setCells (w.heap.size) 2 [.string s.lS, .string s.lI, .string s.lS, .string s.lI]).heap[w.heap.size]? = some (.cells (th ({ t with sc := ⟨t.sc.a, R, R⟩, fr := ⟨t.fr.a, f, f⟩, sk := ⟨t.sk.a, h', h'⟩, tr := ⟨t.tr.a, r, r⟩, cS := s.lS, cI := s.lI, kS := s.lS, kI := s.lI })) 39) := by rw [setCells_block [.string s.lS, .string s.lI, .string s.lS, .string s.lI] 2 _ _ ((M9).2.2.2.2.1) (by simp)]; rfl
  have hY9_0 := below_setCells (B := w.heap.size) hB9 (b := w.heap.size) (by have := hB9.size; omega) 2 [.string s.lS, .string s.lI, .string s.lS, .string s.lI]
  refine wp_named ?_
  intro w10 hW10
  have hB10 : Below w.heap.size w w10 := by rw [hW10]; exact hY9_0
  have M10 : Mem w10 [(w4.heap.size, .cells (sc (s)) 56), (w2.heap.size, .cells #[.slice t.sc.a t.sc.n t.sc.c, .string t.cS, .string t.cI] 78), (w.heap.size + 1 + 1, .cells (th (th0)) 39), (w.heap.size + 1, .cells #[.string mS, .string mI] 24), (w.heap.size, .cells (th ({ t with sc := ⟨t.sc.a, R, R⟩, fr := ⟨t.fr.a, f, f⟩, sk := ⟨t.sk.a, h', h'⟩, tr := ⟨t.tr.a, r, r⟩, cS := s.lS, cI := s.lI, kS := s.lS, kI := s.lI })) 39)] := by rw [hW10]; exact ⟨(setCells_other [.string s.lS, .string s.lI, .string s.lS, .string s.lI] 2 _ _ (by omega)).trans ((M9).1), (setCells_other [.string s.lS, .string s.lI, .string s.lS, .string s.lI] 2 _ _ (by omega)).trans ((M9).2.1), (setCells_other [.string s.lS, .string s.lI, .string s.lS, .string s.lI] 2 _ _ (by omega)).trans ((M9).2.2.1), (setCells_other [.string s.lS, .string s.lI, .string s.lS, .string s.lI] 2 _ _ (by omega)).trans ((M9).2.2.2.1), hX9_0, trivial⟩
  clear c9_0_0 c9_0_1 c9_0_2 c9_0_3 c9_0_4 c9_0_5 c9_0_6 c9_0_7 c9_0_8 c9_0_9 c9_0_10 c9_0_11 c9_0_12 c9_0_13 z9_0 c9_1_0 c9_1_1 c9_1_2 z9_1 z9_2 c9_3_0 c9_3_1 z9_3 c9_4_0 c9_4_1 c9_4_2 c9_4_3 c9_4_4 c9_4_5 c9_4_6 c9_4_7 c9_4_8 c9_4_9 c9_4_10 c9_4_11 c9_4_12 c9_4_13 c9_4_14 c9_4_15 c9_4_16 c9_4_17 c9_4_18 c9_4_19 z9_4
  clear hW10 hX9_0 hY9_0
  have c10_0_0 := Mem.cell (v := .string s.nm) M10.1 0 rfl
  have c10_0_1 := Mem.cell (v := .string s.lS) M10.1 1 rfl
  have c10_0_2 := Mem.cell (v := .string s.lI) M10.1 2 rfl
  have c10_0_3 := Mem.cell (v := .int .i64 s.un) M10.1 3 rfl
  have c10_0_4 := Mem.cell (v := .int .i64 s.fr) M10.1 4 rfl
  have c10_0_5 := Mem.cell (v := .int .i64 s.ht) M10.1 5 rfl
  have c10_0_6 := Mem.cell (v := .int .i64 s.tr) M10.1 6 rfl
  have c10_0_7 := Mem.cell (v := .string s.cS) M10.1 7 rfl
  have c10_0_8 := Mem.cell (v := .string s.cI) M10.1 8 rfl
  have c10_0_9 := Mem.cell (v := .string s.kS) M10.1 9 rfl
  have c10_0_10 := Mem.cell (v := .string s.kI) M10.1 10 rfl
  have c10_0_11 := Mem.cell (v := .string s.pa) M10.1 11 rfl
  have c10_0_12 := Mem.cell (v := .int .i64 s.md) M10.1 12 rfl
  have c10_0_13 := Mem.cell (v := .int .i64 s.rm) M10.1 13 rfl
  have z10_0 := Mem.lt M10.1
  have c10_1_0 := Mem.cell (v := .slice t.sc.a t.sc.n t.sc.c) M10.2.1 0 rfl
  have c10_1_1 := Mem.cell (v := .string t.cS) M10.2.1 1 rfl
  have c10_1_2 := Mem.cell (v := .string t.cI) M10.2.1 2 rfl
  have z10_1 := Mem.lt M10.2.1
  have z10_2 := Mem.lt M10.2.2.1
  have c10_3_0 := Mem.cell (v := .string mS) M10.2.2.2.1 0 rfl
  have c10_3_1 := Mem.cell (v := .string mI) M10.2.2.2.1 1 rfl
  have z10_3 := Mem.lt M10.2.2.2.1
  have c10_4_0 := Mem.cell (v := .string t.id) M10.2.2.2.2.1 0 rfl
  have c10_4_1 := Mem.cell (v := .string t.pa) M10.2.2.2.2.1 1 rfl
  have c10_4_2 := Mem.cell (v := .string s.lS) M10.2.2.2.2.1 2 rfl
  have c10_4_3 := Mem.cell (v := .string s.lI) M10.2.2.2.2.1 3 rfl
  have c10_4_4 := Mem.cell (v := .string s.lS) M10.2.2.2.2.1 4 rfl
  have c10_4_5 := Mem.cell (v := .string s.lI) M10.2.2.2.2.1 5 rfl
  have c10_4_6 := Mem.cell (v := .slice t.fr.a f f) M10.2.2.2.2.1 6 rfl
  have c10_4_7 := Mem.cell (v := .slice t.sk.a h' h') M10.2.2.2.2.1 7 rfl
  have c10_4_8 := Mem.cell (v := .slice t.tr.a r r) M10.2.2.2.2.1 8 rfl
  have c10_4_9 := Mem.cell (v := .slice t.sc.a R R) M10.2.2.2.2.1 9 rfl
  have c10_4_10 := Mem.cell (v := .int .i64 t.md) M10.2.2.2.2.1 10 rfl
  have c10_4_11 := Mem.cell (v := .int .i64 t.rm) M10.2.2.2.2.1 11 rfl
  have c10_4_12 := Mem.cell (v := .int .i64 t.st) M10.2.2.2.2.1 12 rfl
  have c10_4_13 := Mem.cell (v := .string t.on) M10.2.2.2.2.1 13 rfl
  have c10_4_14 := Mem.cell (v := .int .i64 t.vk) M10.2.2.2.2.1 14 rfl
  have c10_4_15 := Mem.cell (v := .int .i64 t.vx) M10.2.2.2.2.1 15 rfl
  have c10_4_16 := Mem.cell (v := .string t.vm) M10.2.2.2.2.1 16 rfl
  have c10_4_17 := Mem.cell (v := .string t.vS) M10.2.2.2.2.1 17 rfl
  have c10_4_18 := Mem.cell (v := .string t.vI) M10.2.2.2.2.1 18 rfl
  have c10_4_19 := Mem.cell (v := .bool t.ex) M10.2.2.2.2.1 19 rfl
  have z10_4 := Mem.lt M10.2.2.2.2.1
  have f11 := fun j => Mem.free M10.2.2.2.2.1 j
  go_upto_region 13 with (fail)
  clear f11
  have hX10_0 : (w10.setCells (w.heap.size) 1 [.string s.nm]).heap[w.heap.size]? = some (.cells (th ({ t with sc := ⟨t.sc.a, R, R⟩, fr := ⟨t.fr.a, f, f⟩, sk := ⟨t.sk.a, h', h'⟩, tr := ⟨t.tr.a, r, r⟩, cS := s.lS, cI := s.lI, kS := s.lS, kI := s.lI, pa := s.nm })) 39) := by rw [setCells_block [.string s.nm] 1 _ _ ((M10).2.2.2.2.1) (by simp)]; rfl
  have hY10_0 := below_setCells (B := w.heap.size) hB10 (b := w.heap.size) (by have := hB10.size; omega) 1 [.string s.nm]
  have hX10_1 : ((w10.setCells (w.heap.size) 1 [.string s.nm]).setCells (w.heap.size) 10 [.int .i64 0]).heap[w.heap.size]? = some (.cells (th ({ t with sc := ⟨t.sc.a, R, R⟩, fr := ⟨t.fr.a, f, f⟩, sk := ⟨t.sk.a, h', h'⟩, tr := ⟨t.tr.a, r, r⟩, cS := s.lS, cI := s.lI, kS := s.lS, kI := s.lI, pa := s.nm, md := 0 })) 39) := by rw [setCells_block [.int .i64 0] 10 _ _ (hX10_0) (by simp)]; rfl
  have hY10_1 := below_setCells (B := w.heap.size) hY10_0 (b := w.heap.size) (by have := hB10.size; omega) 10 [.int .i64 0]
  have hX10_2 : (((w10.setCells (w.heap.size) 1 [.string s.nm]).setCells (w.heap.size) 10 [.int .i64 0]).setCells (w.heap.size) 11 [.int .i64 0]).heap[w.heap.size]? = some (.cells (th ({ t with sc := ⟨t.sc.a, R, R⟩, fr := ⟨t.fr.a, f, f⟩, sk := ⟨t.sk.a, h', h'⟩, tr := ⟨t.tr.a, r, r⟩, cS := s.lS, cI := s.lI, kS := s.lS, kI := s.lI, pa := s.nm, md := 0, rm := 0 })) 39) := by rw [setCells_block [.int .i64 0] 11 _ _ (hX10_1) (by simp)]; rfl
  have hY10_2 := below_setCells (B := w.heap.size) hY10_1 (b := w.heap.size) (by have := hB10.size; omega) 11 [.int .i64 0]
  refine wp_named ?_
  intro w11 hW11
  have hB11 : Below w.heap.size w w11 := by rw [hW11]; exact hY10_2
  have M11 : Mem w11 [(w4.heap.size, .cells (sc (s)) 56), (w2.heap.size, .cells #[.slice t.sc.a t.sc.n t.sc.c, .string t.cS, .string t.cI] 78), (w.heap.size + 1 + 1, .cells (th (th0)) 39), (w.heap.size + 1, .cells #[.string mS, .string mI] 24), (w.heap.size, .cells (th ({ t with sc := ⟨t.sc.a, R, R⟩, fr := ⟨t.fr.a, f, f⟩, sk := ⟨t.sk.a, h', h'⟩, tr := ⟨t.tr.a, r, r⟩, cS := s.lS, cI := s.lI, kS := s.lS, kI := s.lI, pa := s.nm, md := 0, rm := 0 })) 39)] := by rw [hW11]; exact ⟨(setCells_other [.int .i64 0] 11 _ _ (by omega)).trans ((setCells_other [.int .i64 0] 10 _ _ (by omega)).trans ((setCells_other [.string s.nm] 1 _ _ (by omega)).trans ((M10).1))), (setCells_other [.int .i64 0] 11 _ _ (by omega)).trans ((setCells_other [.int .i64 0] 10 _ _ (by omega)).trans ((setCells_other [.string s.nm] 1 _ _ (by omega)).trans ((M10).2.1))), (setCells_other [.int .i64 0] 11 _ _ (by omega)).trans ((setCells_other [.int .i64 0] 10 _ _ (by omega)).trans ((setCells_other [.string s.nm] 1 _ _ (by omega)).trans ((M10).2.2.1))), (setCells_other [.int .i64 0] 11 _ _ (by omega)).trans ((setCells_other [.int .i64 0] 10 _ _ (by omega)).trans ((setCells_other [.string s.nm] 1 _ _ (by omega)).trans ((M10).2.2.2.1))), hX10_2, trivial⟩
  clear c10_0_0 c10_0_1 c10_0_2 c10_0_3 c10_0_4 c10_0_5 c10_0_6 c10_0_7 c10_0_8 c10_0_9 c10_0_10 c10_0_11 c10_0_12 c10_0_13 z10_0 c10_1_0 c10_1_1 c10_1_2 z10_1 z10_2 c10_3_0 c10_3_1 z10_3 c10_4_0 c10_4_1 c10_4_2 c10_4_3 c10_4_4 c10_4_5 c10_4_6 c10_4_7 c10_4_8 c10_4_9 c10_4_10 c10_4_11 c10_4_12 c10_4_13 c10_4_14 c10_4_15 c10_4_16 c10_4_17 c10_4_18 c10_4_19 z10_4
  clear hW11 hX10_0 hY10_0 hX10_1 hY10_1 hX10_2 hY10_2
  have c11_0_0 := Mem.cell (v := .string s.nm) M11.1 0 rfl
  have c11_0_1 := Mem.cell (v := .string s.lS) M11.1 1 rfl
  have c11_0_2 := Mem.cell (v := .string s.lI) M11.1 2 rfl
  have c11_0_3 := Mem.cell (v := .int .i64 s.un) M11.1 3 rfl
  have c11_0_4 := Mem.cell (v := .int .i64 s.fr) M11.1 4 rfl
  have c11_0_5 := Mem.cell (v := .int .i64 s.ht) M11.1 5 rfl
  have c11_0_6 := Mem.cell (v := .int .i64 s.tr) M11.1 6 rfl
  have c11_0_7 := Mem.cell (v := .string s.cS) M11.1 7 rfl
  have c11_0_8 := Mem.cell (v := .string s.cI) M11.1 8 rfl
  have c11_0_9 := Mem.cell (v := .string s.kS) M11.1 9 rfl
  have c11_0_10 := Mem.cell (v := .string s.kI) M11.1 10 rfl
  have c11_0_11 := Mem.cell (v := .string s.pa) M11.1 11 rfl
  have c11_0_12 := Mem.cell (v := .int .i64 s.md) M11.1 12 rfl
  have c11_0_13 := Mem.cell (v := .int .i64 s.rm) M11.1 13 rfl
  have z11_0 := Mem.lt M11.1
  have c11_1_0 := Mem.cell (v := .slice t.sc.a t.sc.n t.sc.c) M11.2.1 0 rfl
  have c11_1_1 := Mem.cell (v := .string t.cS) M11.2.1 1 rfl
  have c11_1_2 := Mem.cell (v := .string t.cI) M11.2.1 2 rfl
  have z11_1 := Mem.lt M11.2.1
  have z11_2 := Mem.lt M11.2.2.1
  have c11_3_0 := Mem.cell (v := .string mS) M11.2.2.2.1 0 rfl
  have c11_3_1 := Mem.cell (v := .string mI) M11.2.2.2.1 1 rfl
  have z11_3 := Mem.lt M11.2.2.2.1
  have c11_4_0 := Mem.cell (v := .string t.id) M11.2.2.2.2.1 0 rfl
  have c11_4_1 := Mem.cell (v := .string s.nm) M11.2.2.2.2.1 1 rfl
  have c11_4_2 := Mem.cell (v := .string s.lS) M11.2.2.2.2.1 2 rfl
  have c11_4_3 := Mem.cell (v := .string s.lI) M11.2.2.2.2.1 3 rfl
  have c11_4_4 := Mem.cell (v := .string s.lS) M11.2.2.2.2.1 4 rfl
  have c11_4_5 := Mem.cell (v := .string s.lI) M11.2.2.2.2.1 5 rfl
  have c11_4_6 := Mem.cell (v := .slice t.fr.a f f) M11.2.2.2.2.1 6 rfl
  have c11_4_7 := Mem.cell (v := .slice t.sk.a h' h') M11.2.2.2.2.1 7 rfl
  have c11_4_8 := Mem.cell (v := .slice t.tr.a r r) M11.2.2.2.2.1 8 rfl
  have c11_4_9 := Mem.cell (v := .slice t.sc.a R R) M11.2.2.2.2.1 9 rfl
  have c11_4_10 := Mem.cell (v := .int .i64 0) M11.2.2.2.2.1 10 rfl
  have c11_4_11 := Mem.cell (v := .int .i64 0) M11.2.2.2.2.1 11 rfl
  have c11_4_12 := Mem.cell (v := .int .i64 t.st) M11.2.2.2.2.1 12 rfl
  have c11_4_13 := Mem.cell (v := .string t.on) M11.2.2.2.2.1 13 rfl
  have c11_4_14 := Mem.cell (v := .int .i64 t.vk) M11.2.2.2.2.1 14 rfl
  have c11_4_15 := Mem.cell (v := .int .i64 t.vx) M11.2.2.2.2.1 15 rfl
  have c11_4_16 := Mem.cell (v := .string t.vm) M11.2.2.2.2.1 16 rfl
  have c11_4_17 := Mem.cell (v := .string t.vS) M11.2.2.2.2.1 17 rfl
  have c11_4_18 := Mem.cell (v := .string t.vI) M11.2.2.2.2.1 18 rfl
  have c11_4_19 := Mem.cell (v := .bool t.ex) M11.2.2.2.2.1 19 rfl
  have z11_4 := Mem.lt M11.2.2.2.2.1
  have f12 := fun j => Mem.free M11.2.2.2.2.1 j
  go_upto_region 14 with (fail)
  clear f12
  have hX11_0 : (w11.setCells (w.heap.size) 12 [.int .i64 2]).heap[w.heap.size]? = some (.cells (th ({ t with sc := ⟨t.sc.a, R, R⟩, fr := ⟨t.fr.a, f, f⟩, sk := ⟨t.sk.a, h', h'⟩, tr := ⟨t.tr.a, r, r⟩, cS := s.lS, cI := s.lI, kS := s.lS, kI := s.lI, pa := s.nm, md := 0, rm := 0, st := 2 })) 39) := by rw [setCells_block [.int .i64 2] 12 _ _ ((M11).2.2.2.2.1) (by simp)]; rfl
  have hY11_0 := below_setCells (B := w.heap.size) hB11 (b := w.heap.size) (by have := hB11.size; omega) 12 [.int .i64 2]
  have hX11_1 : ((w11.setCells (w.heap.size) 12 [.int .i64 2]).setCells (w.heap.size) 13 [.string ⟨#[]⟩]).heap[w.heap.size]? = some (.cells (th ({ t with sc := ⟨t.sc.a, R, R⟩, fr := ⟨t.fr.a, f, f⟩, sk := ⟨t.sk.a, h', h'⟩, tr := ⟨t.tr.a, r, r⟩, cS := s.lS, cI := s.lI, kS := s.lS, kI := s.lI, pa := s.nm, md := 0, rm := 0, st := 2, on := ⟨#[]⟩ })) 39) := by rw [setCells_block [.string ⟨#[]⟩] 13 _ _ (hX11_0) (by simp)]; rfl
  have hY11_1 := below_setCells (B := w.heap.size) hY11_0 (b := w.heap.size) (by have := hB11.size; omega) 13 [.string ⟨#[]⟩]
  have hX11_2 : (((w11.setCells (w.heap.size) 12 [.int .i64 2]).setCells (w.heap.size) 13 [.string ⟨#[]⟩]).setCells (w.heap.size) 14 [.int .i64 1, .int .i64 0, .string ⟨#[]⟩, .string ⟨#[]⟩, .string ⟨#[]⟩]).heap[w.heap.size]? = some (.cells (th ({ t with sc := ⟨t.sc.a, R, R⟩, fr := ⟨t.fr.a, f, f⟩, sk := ⟨t.sk.a, h', h'⟩, tr := ⟨t.tr.a, r, r⟩, cS := s.lS, cI := s.lI, kS := s.lS, kI := s.lI, pa := s.nm, md := 0, rm := 0, st := 2, on := ⟨#[]⟩, vk := 1, vx := 0, vm := ⟨#[]⟩, vS := ⟨#[]⟩, vI := ⟨#[]⟩ })) 39) := by rw [setCells_block [.int .i64 1, .int .i64 0, .string ⟨#[]⟩, .string ⟨#[]⟩, .string ⟨#[]⟩] 14 _ _ (hX11_1) (by simp)]; rfl
  have hY11_2 := below_setCells (B := w.heap.size) hY11_1 (b := w.heap.size) (by have := hB11.size; omega) 14 [.int .i64 1, .int .i64 0, .string ⟨#[]⟩, .string ⟨#[]⟩, .string ⟨#[]⟩]
  have hX11_3 : ((((w11.setCells (w.heap.size) 12 [.int .i64 2]).setCells (w.heap.size) 13 [.string ⟨#[]⟩]).setCells (w.heap.size) 14 [.int .i64 1, .int .i64 0, .string ⟨#[]⟩, .string ⟨#[]⟩, .string ⟨#[]⟩]).setCells (w.heap.size) 19 [.bool false]).heap[w.heap.size]? = some (.cells (th ({ t with sc := ⟨t.sc.a, R, R⟩, fr := ⟨t.fr.a, f, f⟩, sk := ⟨t.sk.a, h', h'⟩, tr := ⟨t.tr.a, r, r⟩, cS := s.lS, cI := s.lI, kS := s.lS, kI := s.lI, pa := s.nm, md := 0, rm := 0, st := 2, on := ⟨#[]⟩, vk := 1, vx := 0, vm := ⟨#[]⟩, vS := ⟨#[]⟩, vI := ⟨#[]⟩, ex := false })) 39) := by rw [setCells_block [.bool false] 19 _ _ (hX11_2) (by simp)]; rfl
  have hY11_3 := below_setCells (B := w.heap.size) hY11_2 (b := w.heap.size) (by have := hB11.size; omega) 19 [.bool false]
  refine wp_named ?_
  intro w12 hW12
  have hB12 : Below w.heap.size w w12 := by rw [hW12]; exact hY11_3
  have M12 : Mem w12 [(w4.heap.size, .cells (sc (s)) 56), (w2.heap.size, .cells #[.slice t.sc.a t.sc.n t.sc.c, .string t.cS, .string t.cI] 78), (w.heap.size + 1 + 1, .cells (th (th0)) 39), (w.heap.size + 1, .cells #[.string mS, .string mI] 24), (w.heap.size, .cells (th ({ t with sc := ⟨t.sc.a, R, R⟩, fr := ⟨t.fr.a, f, f⟩, sk := ⟨t.sk.a, h', h'⟩, tr := ⟨t.tr.a, r, r⟩, cS := s.lS, cI := s.lI, kS := s.lS, kI := s.lI, pa := s.nm, md := 0, rm := 0, st := 2, on := ⟨#[]⟩, vk := 1, vx := 0, vm := ⟨#[]⟩, vS := ⟨#[]⟩, vI := ⟨#[]⟩, ex := false })) 39)] := by rw [hW12]; exact ⟨(setCells_other [.bool false] 19 _ _ (by omega)).trans ((setCells_other [.int .i64 1, .int .i64 0, .string ⟨#[]⟩, .string ⟨#[]⟩, .string ⟨#[]⟩] 14 _ _ (by omega)).trans ((setCells_other [.string ⟨#[]⟩] 13 _ _ (by omega)).trans ((setCells_other [.int .i64 2] 12 _ _ (by omega)).trans ((M11).1)))), (setCells_other [.bool false] 19 _ _ (by omega)).trans ((setCells_other [.int .i64 1, .int .i64 0, .string ⟨#[]⟩, .string ⟨#[]⟩, .string ⟨#[]⟩] 14 _ _ (by omega)).trans ((setCells_other [.string ⟨#[]⟩] 13 _ _ (by omega)).trans ((setCells_other [.int .i64 2] 12 _ _ (by omega)).trans ((M11).2.1)))), (setCells_other [.bool false] 19 _ _ (by omega)).trans ((setCells_other [.int .i64 1, .int .i64 0, .string ⟨#[]⟩, .string ⟨#[]⟩, .string ⟨#[]⟩] 14 _ _ (by omega)).trans ((setCells_other [.string ⟨#[]⟩] 13 _ _ (by omega)).trans ((setCells_other [.int .i64 2] 12 _ _ (by omega)).trans ((M11).2.2.1)))), (setCells_other [.bool false] 19 _ _ (by omega)).trans ((setCells_other [.int .i64 1, .int .i64 0, .string ⟨#[]⟩, .string ⟨#[]⟩, .string ⟨#[]⟩] 14 _ _ (by omega)).trans ((setCells_other [.string ⟨#[]⟩] 13 _ _ (by omega)).trans ((setCells_other [.int .i64 2] 12 _ _ (by omega)).trans ((M11).2.2.2.1)))), hX11_3, trivial⟩
  clear c11_0_0 c11_0_1 c11_0_2 c11_0_3 c11_0_4 c11_0_5 c11_0_6 c11_0_7 c11_0_8 c11_0_9 c11_0_10 c11_0_11 c11_0_12 c11_0_13 z11_0 c11_1_0 c11_1_1 c11_1_2 z11_1 z11_2 c11_3_0 c11_3_1 z11_3 c11_4_0 c11_4_1 c11_4_2 c11_4_3 c11_4_4 c11_4_5 c11_4_6 c11_4_7 c11_4_8 c11_4_9 c11_4_10 c11_4_11 c11_4_12 c11_4_13 c11_4_14 c11_4_15 c11_4_16 c11_4_17 c11_4_18 c11_4_19 z11_4
  clear hW12 hX11_0 hY11_0 hX11_1 hY11_1 hX11_2 hY11_2 hX11_3 hY11_3
  have c12_0_0 := Mem.cell (v := .string s.nm) M12.1 0 rfl
  have c12_0_1 := Mem.cell (v := .string s.lS) M12.1 1 rfl
  have c12_0_2 := Mem.cell (v := .string s.lI) M12.1 2 rfl
  have c12_0_3 := Mem.cell (v := .int .i64 s.un) M12.1 3 rfl
  have c12_0_4 := Mem.cell (v := .int .i64 s.fr) M12.1 4 rfl
  have c12_0_5 := Mem.cell (v := .int .i64 s.ht) M12.1 5 rfl
  have c12_0_6 := Mem.cell (v := .int .i64 s.tr) M12.1 6 rfl
  have c12_0_7 := Mem.cell (v := .string s.cS) M12.1 7 rfl
  have c12_0_8 := Mem.cell (v := .string s.cI) M12.1 8 rfl
  have c12_0_9 := Mem.cell (v := .string s.kS) M12.1 9 rfl
  have c12_0_10 := Mem.cell (v := .string s.kI) M12.1 10 rfl
  have c12_0_11 := Mem.cell (v := .string s.pa) M12.1 11 rfl
  have c12_0_12 := Mem.cell (v := .int .i64 s.md) M12.1 12 rfl
  have c12_0_13 := Mem.cell (v := .int .i64 s.rm) M12.1 13 rfl
  have z12_0 := Mem.lt M12.1
  have c12_1_0 := Mem.cell (v := .slice t.sc.a t.sc.n t.sc.c) M12.2.1 0 rfl
  have c12_1_1 := Mem.cell (v := .string t.cS) M12.2.1 1 rfl
  have c12_1_2 := Mem.cell (v := .string t.cI) M12.2.1 2 rfl
  have z12_1 := Mem.lt M12.2.1
  have z12_2 := Mem.lt M12.2.2.1
  have c12_3_0 := Mem.cell (v := .string mS) M12.2.2.2.1 0 rfl
  have c12_3_1 := Mem.cell (v := .string mI) M12.2.2.2.1 1 rfl
  have z12_3 := Mem.lt M12.2.2.2.1
  have c12_4_0 := Mem.cell (v := .string t.id) M12.2.2.2.2.1 0 rfl
  have c12_4_1 := Mem.cell (v := .string s.nm) M12.2.2.2.2.1 1 rfl
  have c12_4_2 := Mem.cell (v := .string s.lS) M12.2.2.2.2.1 2 rfl
  have c12_4_3 := Mem.cell (v := .string s.lI) M12.2.2.2.2.1 3 rfl
  have c12_4_4 := Mem.cell (v := .string s.lS) M12.2.2.2.2.1 4 rfl
  have c12_4_5 := Mem.cell (v := .string s.lI) M12.2.2.2.2.1 5 rfl
  have c12_4_6 := Mem.cell (v := .slice t.fr.a f f) M12.2.2.2.2.1 6 rfl
  have c12_4_7 := Mem.cell (v := .slice t.sk.a h' h') M12.2.2.2.2.1 7 rfl
  have c12_4_8 := Mem.cell (v := .slice t.tr.a r r) M12.2.2.2.2.1 8 rfl
  have c12_4_9 := Mem.cell (v := .slice t.sc.a R R) M12.2.2.2.2.1 9 rfl
  have c12_4_10 := Mem.cell (v := .int .i64 0) M12.2.2.2.2.1 10 rfl
  have c12_4_11 := Mem.cell (v := .int .i64 0) M12.2.2.2.2.1 11 rfl
  have c12_4_12 := Mem.cell (v := .int .i64 2) M12.2.2.2.2.1 12 rfl
  have c12_4_13 := Mem.cell (v := .string ⟨#[]⟩) M12.2.2.2.2.1 13 rfl
  have c12_4_14 := Mem.cell (v := .int .i64 1) M12.2.2.2.2.1 14 rfl
  have c12_4_15 := Mem.cell (v := .int .i64 0) M12.2.2.2.2.1 15 rfl
  have c12_4_16 := Mem.cell (v := .string ⟨#[]⟩) M12.2.2.2.2.1 16 rfl
  have c12_4_17 := Mem.cell (v := .string ⟨#[]⟩) M12.2.2.2.2.1 17 rfl
  have c12_4_18 := Mem.cell (v := .string ⟨#[]⟩) M12.2.2.2.2.1 18 rfl
  have c12_4_19 := Mem.cell (v := .bool false) M12.2.2.2.2.1 19 rfl
  have z12_4 := Mem.lt M12.2.2.2.2.1
  refine wp_region_lit ?_
  refine load_th rfl _ rfl (w.heap.size) rfl ({ t with sc := ⟨t.sc.a, R, R⟩, fr := ⟨t.fr.a, f, f⟩, sk := ⟨t.sk.a, h', h'⟩, tr := ⟨t.tr.a, r, r⟩, cS := s.lS, cI := s.lI, kS := s.lS, kI := s.lI, pa := s.nm, md := 0, rm := 0, st := 2, on := ⟨#[]⟩, vk := 1, vx := 0, vm := ⟨#[]⟩, vS := ⟨#[]⟩, vI := ⟨#[]⟩, ex := false }) M12.2.2.2.2.1 ?_
  refine store_th rfl _ _ rfl (w.heap.size + 1 + 1) rfl (th0) ({ t with sc := ⟨t.sc.a, R, R⟩, fr := ⟨t.fr.a, f, f⟩, sk := ⟨t.sk.a, h', h'⟩, tr := ⟨t.tr.a, r, r⟩, cS := s.lS, cI := s.lI, kS := s.lS, kI := s.lI, pa := s.nm, md := 0, rm := 0, st := 2, on := ⟨#[]⟩, vk := 1, vx := 0, vm := ⟨#[]⟩, vS := ⟨#[]⟩, vI := ⟨#[]⟩, ex := false }) rfl M12.2.2.1 (one_th _) ?_
  intro w13 hW13
  have hB13 : Below w.heap.size w w13 := by rw [hW13]; exact below_setCells (B := w.heap.size) hB12 (b := w.heap.size + 1 + 1) (by have := hB12.size; omega) 0 _
  have M13 : Mem w13 [(w4.heap.size, .cells (sc (s)) 56), (w2.heap.size, .cells #[.slice t.sc.a t.sc.n t.sc.c, .string t.cS, .string t.cI] 78), (w.heap.size + 1 + 1, .cells (th ({ t with sc := ⟨t.sc.a, R, R⟩, fr := ⟨t.fr.a, f, f⟩, sk := ⟨t.sk.a, h', h'⟩, tr := ⟨t.tr.a, r, r⟩, cS := s.lS, cI := s.lI, kS := s.lS, kI := s.lI, pa := s.nm, md := 0, rm := 0, st := 2, on := ⟨#[]⟩, vk := 1, vx := 0, vm := ⟨#[]⟩, vS := ⟨#[]⟩, vI := ⟨#[]⟩, ex := false })) 39), (w.heap.size + 1, .cells #[.string mS, .string mI] 24), (w.heap.size, .cells (th ({ t with sc := ⟨t.sc.a, R, R⟩, fr := ⟨t.fr.a, f, f⟩, sk := ⟨t.sk.a, h', h'⟩, tr := ⟨t.tr.a, r, r⟩, cS := s.lS, cI := s.lI, kS := s.lS, kI := s.lI, pa := s.nm, md := 0, rm := 0, st := 2, on := ⟨#[]⟩, vk := 1, vx := 0, vm := ⟨#[]⟩, vS := ⟨#[]⟩, vI := ⟨#[]⟩, ex := false })) 39)] := by rw [hW13]; exact ⟨(setCells_other _ 0 _ _ (by omega)).trans M12.1, (setCells_other _ 0 _ _ (by omega)).trans M12.2.1, set_th M12.2.2.1 _, (setCells_other _ 0 _ _ (by omega)).trans M12.2.2.2.1, (setCells_other _ 0 _ _ (by omega)).trans M12.2.2.2.2.1, trivial⟩
  clear c12_0_0 c12_0_1 c12_0_2 c12_0_3 c12_0_4 c12_0_5 c12_0_6 c12_0_7 c12_0_8 c12_0_9 c12_0_10 c12_0_11 c12_0_12 c12_0_13 z12_0 c12_1_0 c12_1_1 c12_1_2 z12_1 z12_2 c12_3_0 c12_3_1 z12_3 c12_4_0 c12_4_1 c12_4_2 c12_4_3 c12_4_4 c12_4_5 c12_4_6 c12_4_7 c12_4_8 c12_4_9 c12_4_10 c12_4_11 c12_4_12 c12_4_13 c12_4_14 c12_4_15 c12_4_16 c12_4_17 c12_4_18 c12_4_19 z12_4
  clear hW13
  have c13_0_0 := Mem.cell (v := .string s.nm) M13.1 0 rfl
  have c13_0_1 := Mem.cell (v := .string s.lS) M13.1 1 rfl
  have c13_0_2 := Mem.cell (v := .string s.lI) M13.1 2 rfl
  have c13_0_3 := Mem.cell (v := .int .i64 s.un) M13.1 3 rfl
  have c13_0_4 := Mem.cell (v := .int .i64 s.fr) M13.1 4 rfl
  have c13_0_5 := Mem.cell (v := .int .i64 s.ht) M13.1 5 rfl
  have c13_0_6 := Mem.cell (v := .int .i64 s.tr) M13.1 6 rfl
  have c13_0_7 := Mem.cell (v := .string s.cS) M13.1 7 rfl
  have c13_0_8 := Mem.cell (v := .string s.cI) M13.1 8 rfl
  have c13_0_9 := Mem.cell (v := .string s.kS) M13.1 9 rfl
  have c13_0_10 := Mem.cell (v := .string s.kI) M13.1 10 rfl
  have c13_0_11 := Mem.cell (v := .string s.pa) M13.1 11 rfl
  have c13_0_12 := Mem.cell (v := .int .i64 s.md) M13.1 12 rfl
  have c13_0_13 := Mem.cell (v := .int .i64 s.rm) M13.1 13 rfl
  have z13_0 := Mem.lt M13.1
  have c13_1_0 := Mem.cell (v := .slice t.sc.a t.sc.n t.sc.c) M13.2.1 0 rfl
  have c13_1_1 := Mem.cell (v := .string t.cS) M13.2.1 1 rfl
  have c13_1_2 := Mem.cell (v := .string t.cI) M13.2.1 2 rfl
  have z13_1 := Mem.lt M13.2.1
  have c13_2_0 := Mem.cell (v := .string t.id) M13.2.2.1 0 rfl
  have c13_2_1 := Mem.cell (v := .string s.nm) M13.2.2.1 1 rfl
  have c13_2_2 := Mem.cell (v := .string s.lS) M13.2.2.1 2 rfl
  have c13_2_3 := Mem.cell (v := .string s.lI) M13.2.2.1 3 rfl
  have c13_2_4 := Mem.cell (v := .string s.lS) M13.2.2.1 4 rfl
  have c13_2_5 := Mem.cell (v := .string s.lI) M13.2.2.1 5 rfl
  have c13_2_6 := Mem.cell (v := .slice t.fr.a f f) M13.2.2.1 6 rfl
  have c13_2_7 := Mem.cell (v := .slice t.sk.a h' h') M13.2.2.1 7 rfl
  have c13_2_8 := Mem.cell (v := .slice t.tr.a r r) M13.2.2.1 8 rfl
  have c13_2_9 := Mem.cell (v := .slice t.sc.a R R) M13.2.2.1 9 rfl
  have c13_2_10 := Mem.cell (v := .int .i64 0) M13.2.2.1 10 rfl
  have c13_2_11 := Mem.cell (v := .int .i64 0) M13.2.2.1 11 rfl
  have c13_2_12 := Mem.cell (v := .int .i64 2) M13.2.2.1 12 rfl
  have c13_2_13 := Mem.cell (v := .string ⟨#[]⟩) M13.2.2.1 13 rfl
  have c13_2_14 := Mem.cell (v := .int .i64 1) M13.2.2.1 14 rfl
  have c13_2_15 := Mem.cell (v := .int .i64 0) M13.2.2.1 15 rfl
  have c13_2_16 := Mem.cell (v := .string ⟨#[]⟩) M13.2.2.1 16 rfl
  have c13_2_17 := Mem.cell (v := .string ⟨#[]⟩) M13.2.2.1 17 rfl
  have c13_2_18 := Mem.cell (v := .string ⟨#[]⟩) M13.2.2.1 18 rfl
  have c13_2_19 := Mem.cell (v := .bool false) M13.2.2.1 19 rfl
  have z13_2 := Mem.lt M13.2.2.1
  have c13_3_0 := Mem.cell (v := .string mS) M13.2.2.2.1 0 rfl
  have c13_3_1 := Mem.cell (v := .string mI) M13.2.2.2.1 1 rfl
  have z13_3 := Mem.lt M13.2.2.2.1
  have c13_4_0 := Mem.cell (v := .string t.id) M13.2.2.2.2.1 0 rfl
  have c13_4_1 := Mem.cell (v := .string s.nm) M13.2.2.2.2.1 1 rfl
  have c13_4_2 := Mem.cell (v := .string s.lS) M13.2.2.2.2.1 2 rfl
  have c13_4_3 := Mem.cell (v := .string s.lI) M13.2.2.2.2.1 3 rfl
  have c13_4_4 := Mem.cell (v := .string s.lS) M13.2.2.2.2.1 4 rfl
  have c13_4_5 := Mem.cell (v := .string s.lI) M13.2.2.2.2.1 5 rfl
  have c13_4_6 := Mem.cell (v := .slice t.fr.a f f) M13.2.2.2.2.1 6 rfl
  have c13_4_7 := Mem.cell (v := .slice t.sk.a h' h') M13.2.2.2.2.1 7 rfl
  have c13_4_8 := Mem.cell (v := .slice t.tr.a r r) M13.2.2.2.2.1 8 rfl
  have c13_4_9 := Mem.cell (v := .slice t.sc.a R R) M13.2.2.2.2.1 9 rfl
  have c13_4_10 := Mem.cell (v := .int .i64 0) M13.2.2.2.2.1 10 rfl
  have c13_4_11 := Mem.cell (v := .int .i64 0) M13.2.2.2.2.1 11 rfl
  have c13_4_12 := Mem.cell (v := .int .i64 2) M13.2.2.2.2.1 12 rfl
  have c13_4_13 := Mem.cell (v := .string ⟨#[]⟩) M13.2.2.2.2.1 13 rfl
  have c13_4_14 := Mem.cell (v := .int .i64 1) M13.2.2.2.2.1 14 rfl
  have c13_4_15 := Mem.cell (v := .int .i64 0) M13.2.2.2.2.1 15 rfl
  have c13_4_16 := Mem.cell (v := .string ⟨#[]⟩) M13.2.2.2.2.1 16 rfl
  have c13_4_17 := Mem.cell (v := .string ⟨#[]⟩) M13.2.2.2.2.1 17 rfl
  have c13_4_18 := Mem.cell (v := .string ⟨#[]⟩) M13.2.2.2.2.1 18 rfl
  have c13_4_19 := Mem.cell (v := .bool false) M13.2.2.2.2.1 19 rfl
  have z13_4 := Mem.lt M13.2.2.2.2.1
  go_wp2_with fail
  refine bodyPost_ret (v := .tuple #[.agg (th ({ t with sc := ⟨t.sc.a, R, R⟩, fr := ⟨t.fr.a, f, f⟩, sk := ⟨t.sk.a, h', h'⟩, tr := ⟨t.tr.a, r, r⟩, cS := s.lS, cI := s.lI, kS := s.lS, kI := s.lI, pa := s.nm, md := 0, rm := 0, st := 2, on := ⟨#[]⟩, vk := 1, vx := 0, vm := ⟨#[]⟩, vS := ⟨#[]⟩, vI := ⟨#[]⟩, ex := false })), .bool true]) (results_th2 Tryz.results17 _ _ (w.heap.size + 1 + 1) ({ t with sc := ⟨t.sc.a, R, R⟩, fr := ⟨t.fr.a, f, f⟩, sk := ⟨t.sk.a, h', h'⟩, tr := ⟨t.tr.a, r, r⟩, cS := s.lS, cI := s.lI, kS := s.lS, kI := s.lI, pa := s.nm, md := 0, rm := 0, st := 2, on := ⟨#[]⟩, vk := 1, vx := 0, vm := ⟨#[]⟩, vS := ⟨#[]⟩, vI := ⟨#[]⟩, ex := false }) rfl M13.2.2.1) rfl ⟨rfl, hB13⟩
end Go.Proofs.YtnmepcogijgbjaaGreatDoor
