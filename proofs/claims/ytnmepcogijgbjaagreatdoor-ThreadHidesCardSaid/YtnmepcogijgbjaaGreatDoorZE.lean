/- ThF, ThG: joined into one text; each part says below what it holds. -/
import Derived.Test.YtnmepcogijgbjaaGreatDoorThD
/- thread.Enter: its ways out. -/
namespace Go.Proofs.YtnmepcogijgbjaaGreatDoor
open Go.RowKit
set_option maxRecDepth 100000 in
set_option maxHeartbeats 2000000 in
theorem enter_time (t : Th) (fu q ak ax mk tk rm nw : Int) (am aS aI lS lI : ByteArray) (htk : tk < 1) (w : World) :
    Calls Tryz.prog 9 #[.agg (th t), .int .i64 fu, .int .i64 q, .agg #[.int .i64 ak, .int .i64 ax, .string am, .string aS, .string aI], .int .u8 mk, .agg #[.string lS, .string lI], .int .i64 tk, .int .i64 rm, .int .i64 nw] w fun e w' => e = .returned (.tuple #[.agg (th t), .int .i64 (-7)]) ∧ Below w.heap.size w w' := by
  go_enter Tryz.func9, Tryz.ntmps9
  have hB0 := Below.refl w.heap.size w
  have M0 := Mem.nil w
  go_upto_region 1 with (fail)
  refine wp_named ?_
  intro w1 hW1
  have hB1 : Below w.heap.size w w1 := by rw [hW1]; exact (below_al (below_al (below_al (below_al hB0 _) _) _) _)
  have M1 : Mem w1 [(w.heap.size + 1 + 1 + 1, .cells (th (th0)) 39), (w.heap.size + 1 + 1, .cells #[.string lS, .string lI] 24), (w.heap.size + 1, .cells #[.int .i64 ak, .int .i64 ax, .string am, .string aS, .string aI] 28), (w.heap.size, .cells (th (t)) 39)] := by rw [hW1]; exact ((((M0).new' (w.heap.size) (by rfl) (.cells (th (t)) 39)).new' (w.heap.size + 1) (by simp) (.cells #[.int .i64 ak, .int .i64 ax, .string am, .string aS, .string aI] 28)).new' (w.heap.size + 1 + 1) (by simp) (.cells #[.string lS, .string lI] 24)).new' (w.heap.size + 1 + 1 + 1) (by simp) (.cells (th (th0)) 39)
  clear hW1
  have z1_0 := Mem.lt M1.1
  have c1_1_0 := Mem.cell (v := .string lS) M1.2.1 0 rfl
  have c1_1_1 := Mem.cell (v := .string lI) M1.2.1 1 rfl
  have z1_1 := Mem.lt M1.2.1
  have c1_2_0 := Mem.cell (v := .int .i64 ak) M1.2.2.1 0 rfl
  have c1_2_1 := Mem.cell (v := .int .i64 ax) M1.2.2.1 1 rfl
  have c1_2_2 := Mem.cell (v := .string am) M1.2.2.1 2 rfl
  have c1_2_3 := Mem.cell (v := .string aS) M1.2.2.1 3 rfl
  have c1_2_4 := Mem.cell (v := .string aI) M1.2.2.1 4 rfl
  have z1_2 := Mem.lt M1.2.2.1
  have c1_3_0 := Mem.cell (v := .string t.id) M1.2.2.2.1 0 rfl
  have c1_3_1 := Mem.cell (v := .string t.pa) M1.2.2.2.1 1 rfl
  have c1_3_2 := Mem.cell (v := .string t.cS) M1.2.2.2.1 2 rfl
  have c1_3_3 := Mem.cell (v := .string t.cI) M1.2.2.2.1 3 rfl
  have c1_3_4 := Mem.cell (v := .string t.kS) M1.2.2.2.1 4 rfl
  have c1_3_5 := Mem.cell (v := .string t.kI) M1.2.2.2.1 5 rfl
  have c1_3_6 := Mem.cell (v := .slice t.fr.a t.fr.n t.fr.c) M1.2.2.2.1 6 rfl
  have c1_3_7 := Mem.cell (v := .slice t.sk.a t.sk.n t.sk.c) M1.2.2.2.1 7 rfl
  have c1_3_8 := Mem.cell (v := .slice t.tr.a t.tr.n t.tr.c) M1.2.2.2.1 8 rfl
  have c1_3_9 := Mem.cell (v := .slice t.sc.a t.sc.n t.sc.c) M1.2.2.2.1 9 rfl
  have c1_3_10 := Mem.cell (v := .int .i64 t.md) M1.2.2.2.1 10 rfl
  have c1_3_11 := Mem.cell (v := .int .i64 t.rm) M1.2.2.2.1 11 rfl
  have c1_3_12 := Mem.cell (v := .int .i64 t.st) M1.2.2.2.1 12 rfl
  have c1_3_13 := Mem.cell (v := .string t.on) M1.2.2.2.1 13 rfl
  have c1_3_14 := Mem.cell (v := .int .i64 t.vk) M1.2.2.2.1 14 rfl
  have c1_3_15 := Mem.cell (v := .int .i64 t.vx) M1.2.2.2.1 15 rfl
  have c1_3_16 := Mem.cell (v := .string t.vm) M1.2.2.2.1 16 rfl
  have c1_3_17 := Mem.cell (v := .string t.vS) M1.2.2.2.1 17 rfl
  have c1_3_18 := Mem.cell (v := .string t.vI) M1.2.2.2.1 18 rfl
  have c1_3_19 := Mem.cell (v := .bool t.ex) M1.2.2.2.1 19 rfl
  have z1_3 := Mem.lt M1.2.2.2.1
  go_upto_region 2 with (fail)
  refine wp_region_lit ?_
  refine load_th rfl _ rfl (w.heap.size) rfl (t) M1.2.2.2.1 ?_
  refine store_th rfl _ _ rfl (w.heap.size + 1 + 1 + 1) rfl (th0) (t) rfl M1.1 (one_th _) ?_
  intro w2 hW2
  have hB2 : Below w.heap.size w w2 := by rw [hW2]; exact below_setCells (B := w.heap.size) hB1 (b := w.heap.size + 1 + 1 + 1) (by have := hB1.size; omega) 0 _
  have M2 : Mem w2 [(w.heap.size + 1 + 1 + 1, .cells (th (t)) 39), (w.heap.size + 1 + 1, .cells #[.string lS, .string lI] 24), (w.heap.size + 1, .cells #[.int .i64 ak, .int .i64 ax, .string am, .string aS, .string aI] 28), (w.heap.size, .cells (th (t)) 39)] := by rw [hW2]; exact ⟨set_th M1.1 _, (setCells_other _ 0 _ _ (by omega)).trans M1.2.1, (setCells_other _ 0 _ _ (by omega)).trans M1.2.2.1, (setCells_other _ 0 _ _ (by omega)).trans M1.2.2.2.1, trivial⟩
  clear z1_0 c1_1_0 c1_1_1 z1_1 c1_2_0 c1_2_1 c1_2_2 c1_2_3 c1_2_4 z1_2 c1_3_0 c1_3_1 c1_3_2 c1_3_3 c1_3_4 c1_3_5 c1_3_6 c1_3_7 c1_3_8 c1_3_9 c1_3_10 c1_3_11 c1_3_12 c1_3_13 c1_3_14 c1_3_15 c1_3_16 c1_3_17 c1_3_18 c1_3_19 z1_3
  clear hW2
  have c2_0_0 := Mem.cell (v := .string t.id) M2.1 0 rfl
  have c2_0_1 := Mem.cell (v := .string t.pa) M2.1 1 rfl
  have c2_0_2 := Mem.cell (v := .string t.cS) M2.1 2 rfl
  have c2_0_3 := Mem.cell (v := .string t.cI) M2.1 3 rfl
  have c2_0_4 := Mem.cell (v := .string t.kS) M2.1 4 rfl
  have c2_0_5 := Mem.cell (v := .string t.kI) M2.1 5 rfl
  have c2_0_6 := Mem.cell (v := .slice t.fr.a t.fr.n t.fr.c) M2.1 6 rfl
  have c2_0_7 := Mem.cell (v := .slice t.sk.a t.sk.n t.sk.c) M2.1 7 rfl
  have c2_0_8 := Mem.cell (v := .slice t.tr.a t.tr.n t.tr.c) M2.1 8 rfl
  have c2_0_9 := Mem.cell (v := .slice t.sc.a t.sc.n t.sc.c) M2.1 9 rfl
  have c2_0_10 := Mem.cell (v := .int .i64 t.md) M2.1 10 rfl
  have c2_0_11 := Mem.cell (v := .int .i64 t.rm) M2.1 11 rfl
  have c2_0_12 := Mem.cell (v := .int .i64 t.st) M2.1 12 rfl
  have c2_0_13 := Mem.cell (v := .string t.on) M2.1 13 rfl
  have c2_0_14 := Mem.cell (v := .int .i64 t.vk) M2.1 14 rfl
  have c2_0_15 := Mem.cell (v := .int .i64 t.vx) M2.1 15 rfl
  have c2_0_16 := Mem.cell (v := .string t.vm) M2.1 16 rfl
  have c2_0_17 := Mem.cell (v := .string t.vS) M2.1 17 rfl
  have c2_0_18 := Mem.cell (v := .string t.vI) M2.1 18 rfl
  have c2_0_19 := Mem.cell (v := .bool t.ex) M2.1 19 rfl
  have z2_0 := Mem.lt M2.1
  have c2_1_0 := Mem.cell (v := .string lS) M2.2.1 0 rfl
  have c2_1_1 := Mem.cell (v := .string lI) M2.2.1 1 rfl
  have z2_1 := Mem.lt M2.2.1
  have c2_2_0 := Mem.cell (v := .int .i64 ak) M2.2.2.1 0 rfl
  have c2_2_1 := Mem.cell (v := .int .i64 ax) M2.2.2.1 1 rfl
  have c2_2_2 := Mem.cell (v := .string am) M2.2.2.1 2 rfl
  have c2_2_3 := Mem.cell (v := .string aS) M2.2.2.1 3 rfl
  have c2_2_4 := Mem.cell (v := .string aI) M2.2.2.1 4 rfl
  have z2_2 := Mem.lt M2.2.2.1
  have c2_3_0 := Mem.cell (v := .string t.id) M2.2.2.2.1 0 rfl
  have c2_3_1 := Mem.cell (v := .string t.pa) M2.2.2.2.1 1 rfl
  have c2_3_2 := Mem.cell (v := .string t.cS) M2.2.2.2.1 2 rfl
  have c2_3_3 := Mem.cell (v := .string t.cI) M2.2.2.2.1 3 rfl
  have c2_3_4 := Mem.cell (v := .string t.kS) M2.2.2.2.1 4 rfl
  have c2_3_5 := Mem.cell (v := .string t.kI) M2.2.2.2.1 5 rfl
  have c2_3_6 := Mem.cell (v := .slice t.fr.a t.fr.n t.fr.c) M2.2.2.2.1 6 rfl
  have c2_3_7 := Mem.cell (v := .slice t.sk.a t.sk.n t.sk.c) M2.2.2.2.1 7 rfl
  have c2_3_8 := Mem.cell (v := .slice t.tr.a t.tr.n t.tr.c) M2.2.2.2.1 8 rfl
  have c2_3_9 := Mem.cell (v := .slice t.sc.a t.sc.n t.sc.c) M2.2.2.2.1 9 rfl
  have c2_3_10 := Mem.cell (v := .int .i64 t.md) M2.2.2.2.1 10 rfl
  have c2_3_11 := Mem.cell (v := .int .i64 t.rm) M2.2.2.2.1 11 rfl
  have c2_3_12 := Mem.cell (v := .int .i64 t.st) M2.2.2.2.1 12 rfl
  have c2_3_13 := Mem.cell (v := .string t.on) M2.2.2.2.1 13 rfl
  have c2_3_14 := Mem.cell (v := .int .i64 t.vk) M2.2.2.2.1 14 rfl
  have c2_3_15 := Mem.cell (v := .int .i64 t.vx) M2.2.2.2.1 15 rfl
  have c2_3_16 := Mem.cell (v := .string t.vm) M2.2.2.2.1 16 rfl
  have c2_3_17 := Mem.cell (v := .string t.vS) M2.2.2.2.1 17 rfl
  have c2_3_18 := Mem.cell (v := .string t.vI) M2.2.2.2.1 18 rfl
  have c2_3_19 := Mem.cell (v := .bool t.ex) M2.2.2.2.1 19 rfl
  have z2_3 := Mem.lt M2.2.2.2.1
  go_wp2_with fail
  refine bodyPost_ret (v := .tuple #[.agg (th t), .int .i64 (-7)]) (results_th2 Tryz.results9 _ _ (w.heap.size + 1 + 1 + 1) (t) rfl M2.1) rfl ⟨rfl, hB2⟩
set_option maxRecDepth 100000 in
set_option maxHeartbeats 2000000 in
theorem enter_noroom (t : Th) (fu q ak ax mk tk rm nw : Int) (am aS aI lS lI : ByteArray) (htk : 1 ≤ tk) (htk2 : tk ≤ 1000) (hrm : 0 ≤ rm) (hrm2 : rm ≤ 999) (htr : t.rm ≤ rm) (mn : ByteArray) (w : World)
    (XWR : ∀ W, Below w.heap.size w W → Calls Tryz.prog 27 #[.agg #[.string t.cS, .string t.cI, .string t.kS, .string t.kI], .agg #[.string lS, .string lI]] W fun e w' => e = .returned (.int .i64 0) ∧ Below W.heap.size W w')
    (HNM : ∀ W, Below w.heap.size w W → Calls Tryz.prog 19 #[.agg (th t)] W fun e w' => e = .returned (.tuple #[.agg (th { t with md := t.md + 1, rm := t.rm - 1 }), .string mn, .bool true]) ∧ Below W.heap.size W w') :
    Calls Tryz.prog 9 #[.agg (th t), .int .i64 fu, .int .i64 q, .agg #[.int .i64 ak, .int .i64 ax, .string am, .string aS, .string aI], .int .u8 mk, .agg #[.string lS, .string lI], .int .i64 tk, .int .i64 rm, .int .i64 nw] w fun e w' => e = .returned (.tuple #[.agg (th t), .int .i64 (-5)]) ∧ Below w.heap.size w w' := by
  have XRI := Lib.hid XWR
  have HN := Lib.hid HNM
  clear XWR HNM
  go_enter Tryz.func9, Tryz.ntmps9
  have hB0 := Below.refl w.heap.size w
  have M0 := Mem.nil w
  go_upto_region 1 with (fail)
  refine wp_named ?_
  intro w1 hW1
  have hB1 : Below w.heap.size w w1 := by rw [hW1]; exact (below_al (below_al (below_al (below_al hB0 _) _) _) _)
  have M1 : Mem w1 [(w.heap.size + 1 + 1 + 1, .cells (th (th0)) 39), (w.heap.size + 1 + 1, .cells #[.string lS, .string lI] 24), (w.heap.size + 1, .cells #[.int .i64 ak, .int .i64 ax, .string am, .string aS, .string aI] 28), (w.heap.size, .cells (th (t)) 39)] := by rw [hW1]; exact ((((M0).new' (w.heap.size) (by rfl) (.cells (th (t)) 39)).new' (w.heap.size + 1) (by simp) (.cells #[.int .i64 ak, .int .i64 ax, .string am, .string aS, .string aI] 28)).new' (w.heap.size + 1 + 1) (by simp) (.cells #[.string lS, .string lI] 24)).new' (w.heap.size + 1 + 1 + 1) (by simp) (.cells (th (th0)) 39)
  clear hW1
  have z1_0 := Mem.lt M1.1
  have c1_1_0 := Mem.cell (v := .string lS) M1.2.1 0 rfl
  have c1_1_1 := Mem.cell (v := .string lI) M1.2.1 1 rfl
  have z1_1 := Mem.lt M1.2.1
  have c1_2_0 := Mem.cell (v := .int .i64 ak) M1.2.2.1 0 rfl
  have c1_2_1 := Mem.cell (v := .int .i64 ax) M1.2.2.1 1 rfl
  have c1_2_2 := Mem.cell (v := .string am) M1.2.2.1 2 rfl
  have c1_2_3 := Mem.cell (v := .string aS) M1.2.2.1 3 rfl
  have c1_2_4 := Mem.cell (v := .string aI) M1.2.2.1 4 rfl
  have z1_2 := Mem.lt M1.2.2.1
  have c1_3_0 := Mem.cell (v := .string t.id) M1.2.2.2.1 0 rfl
  have c1_3_1 := Mem.cell (v := .string t.pa) M1.2.2.2.1 1 rfl
  have c1_3_2 := Mem.cell (v := .string t.cS) M1.2.2.2.1 2 rfl
  have c1_3_3 := Mem.cell (v := .string t.cI) M1.2.2.2.1 3 rfl
  have c1_3_4 := Mem.cell (v := .string t.kS) M1.2.2.2.1 4 rfl
  have c1_3_5 := Mem.cell (v := .string t.kI) M1.2.2.2.1 5 rfl
  have c1_3_6 := Mem.cell (v := .slice t.fr.a t.fr.n t.fr.c) M1.2.2.2.1 6 rfl
  have c1_3_7 := Mem.cell (v := .slice t.sk.a t.sk.n t.sk.c) M1.2.2.2.1 7 rfl
  have c1_3_8 := Mem.cell (v := .slice t.tr.a t.tr.n t.tr.c) M1.2.2.2.1 8 rfl
  have c1_3_9 := Mem.cell (v := .slice t.sc.a t.sc.n t.sc.c) M1.2.2.2.1 9 rfl
  have c1_3_10 := Mem.cell (v := .int .i64 t.md) M1.2.2.2.1 10 rfl
  have c1_3_11 := Mem.cell (v := .int .i64 t.rm) M1.2.2.2.1 11 rfl
  have c1_3_12 := Mem.cell (v := .int .i64 t.st) M1.2.2.2.1 12 rfl
  have c1_3_13 := Mem.cell (v := .string t.on) M1.2.2.2.1 13 rfl
  have c1_3_14 := Mem.cell (v := .int .i64 t.vk) M1.2.2.2.1 14 rfl
  have c1_3_15 := Mem.cell (v := .int .i64 t.vx) M1.2.2.2.1 15 rfl
  have c1_3_16 := Mem.cell (v := .string t.vm) M1.2.2.2.1 16 rfl
  have c1_3_17 := Mem.cell (v := .string t.vS) M1.2.2.2.1 17 rfl
  have c1_3_18 := Mem.cell (v := .string t.vI) M1.2.2.2.1 18 rfl
  have c1_3_19 := Mem.cell (v := .bool t.ex) M1.2.2.2.1 19 rfl
  have z1_3 := Mem.lt M1.2.2.2.1
  go_upto_region 5 with (fail)
  go_wp2_with fail
  refine Calls.named ?_
  intro W2 hW2
  have hB2_ : Below w.heap.size w W2 := by rw [hW2]; exact hB1
  have M2_ := M1
  rw [← hW2] at M2_
  clear hW2
  have ZZ2_0 := Lib.hid (Mem.lt M2_.1)
  have ZZ2_1 := Lib.hid (Mem.lt M2_.2.1)
  have ZZ2_2 := Lib.hid (Mem.lt M2_.2.2.1)
  have ZZ2_3 := Lib.hid (Mem.lt M2_.2.2.2.1)
  clear z1_0 c1_1_0 c1_1_1 z1_1 c1_2_0 c1_2_1 c1_2_2 c1_2_3 c1_2_4 z1_2 c1_3_0 c1_3_1 c1_3_2 c1_3_3 c1_3_4 c1_3_5 c1_3_6 c1_3_7 c1_3_8 c1_3_9 c1_3_10 c1_3_11 c1_3_12 c1_3_13 c1_3_14 c1_3_15 c1_3_16 c1_3_17 c1_3_18 c1_3_19 z1_3
  refine (XRI.out _ hB2_).mono ?_
  rintro e w2 ⟨rfl, hb2⟩
  have hB2 := below_then hB2_ hb2
  have M2 := M2_.below hb2
  clear M2_ hB2_ hb2
  have z2_0 := Mem.lt M2.1
  have c2_1_0 := Mem.cell (v := .string lS) M2.2.1 0 rfl
  have c2_1_1 := Mem.cell (v := .string lI) M2.2.1 1 rfl
  have z2_1 := Mem.lt M2.2.1
  have c2_2_0 := Mem.cell (v := .int .i64 ak) M2.2.2.1 0 rfl
  have c2_2_1 := Mem.cell (v := .int .i64 ax) M2.2.2.1 1 rfl
  have c2_2_2 := Mem.cell (v := .string am) M2.2.2.1 2 rfl
  have c2_2_3 := Mem.cell (v := .string aS) M2.2.2.1 3 rfl
  have c2_2_4 := Mem.cell (v := .string aI) M2.2.2.1 4 rfl
  have z2_2 := Mem.lt M2.2.2.1
  have c2_3_0 := Mem.cell (v := .string t.id) M2.2.2.2.1 0 rfl
  have c2_3_1 := Mem.cell (v := .string t.pa) M2.2.2.2.1 1 rfl
  have c2_3_2 := Mem.cell (v := .string t.cS) M2.2.2.2.1 2 rfl
  have c2_3_3 := Mem.cell (v := .string t.cI) M2.2.2.2.1 3 rfl
  have c2_3_4 := Mem.cell (v := .string t.kS) M2.2.2.2.1 4 rfl
  have c2_3_5 := Mem.cell (v := .string t.kI) M2.2.2.2.1 5 rfl
  have c2_3_6 := Mem.cell (v := .slice t.fr.a t.fr.n t.fr.c) M2.2.2.2.1 6 rfl
  have c2_3_7 := Mem.cell (v := .slice t.sk.a t.sk.n t.sk.c) M2.2.2.2.1 7 rfl
  have c2_3_8 := Mem.cell (v := .slice t.tr.a t.tr.n t.tr.c) M2.2.2.2.1 8 rfl
  have c2_3_9 := Mem.cell (v := .slice t.sc.a t.sc.n t.sc.c) M2.2.2.2.1 9 rfl
  have c2_3_10 := Mem.cell (v := .int .i64 t.md) M2.2.2.2.1 10 rfl
  have c2_3_11 := Mem.cell (v := .int .i64 t.rm) M2.2.2.2.1 11 rfl
  have c2_3_12 := Mem.cell (v := .int .i64 t.st) M2.2.2.2.1 12 rfl
  have c2_3_13 := Mem.cell (v := .string t.on) M2.2.2.2.1 13 rfl
  have c2_3_14 := Mem.cell (v := .int .i64 t.vk) M2.2.2.2.1 14 rfl
  have c2_3_15 := Mem.cell (v := .int .i64 t.vx) M2.2.2.2.1 15 rfl
  have c2_3_16 := Mem.cell (v := .string t.vm) M2.2.2.2.1 16 rfl
  have c2_3_17 := Mem.cell (v := .string t.vS) M2.2.2.2.1 17 rfl
  have c2_3_18 := Mem.cell (v := .string t.vI) M2.2.2.2.1 18 rfl
  have c2_3_19 := Mem.cell (v := .bool t.ex) M2.2.2.2.1 19 rfl
  have z2_3 := Mem.lt M2.2.2.2.1
  go_upto_region 8 with (fail)
  refine wp_region_lit ?_
  refine load_th rfl _ rfl (w.heap.size) rfl (t) M2.2.2.2.1 ?_
  go_wp2_with fail
  refine Calls.named ?_
  intro W3 hW3
  have hB3_ : Below w.heap.size w W3 := by rw [hW3]; exact hB2
  have M3_ := M2
  rw [← hW3] at M3_
  clear hW3
  have ZZ3_0 := Lib.hid (Mem.lt M3_.1)
  have ZZ3_1 := Lib.hid (Mem.lt M3_.2.1)
  have ZZ3_2 := Lib.hid (Mem.lt M3_.2.2.1)
  have ZZ3_3 := Lib.hid (Mem.lt M3_.2.2.2.1)
  clear z2_0 c2_1_0 c2_1_1 z2_1 c2_2_0 c2_2_1 c2_2_2 c2_2_3 c2_2_4 z2_2 c2_3_0 c2_3_1 c2_3_2 c2_3_3 c2_3_4 c2_3_5 c2_3_6 c2_3_7 c2_3_8 c2_3_9 c2_3_10 c2_3_11 c2_3_12 c2_3_13 c2_3_14 c2_3_15 c2_3_16 c2_3_17 c2_3_18 c2_3_19 z2_3
  refine (HN.out _ hB3_).mono ?_
  rintro e w3 ⟨rfl, hb3⟩
  have hB3 := below_then hB3_ hb3
  have M3 := M3_.below hb3
  clear M3_ hB3_ hb3
  have z3_0 := Mem.lt M3.1
  have c3_1_0 := Mem.cell (v := .string lS) M3.2.1 0 rfl
  have c3_1_1 := Mem.cell (v := .string lI) M3.2.1 1 rfl
  have z3_1 := Mem.lt M3.2.1
  have c3_2_0 := Mem.cell (v := .int .i64 ak) M3.2.2.1 0 rfl
  have c3_2_1 := Mem.cell (v := .int .i64 ax) M3.2.2.1 1 rfl
  have c3_2_2 := Mem.cell (v := .string am) M3.2.2.1 2 rfl
  have c3_2_3 := Mem.cell (v := .string aS) M3.2.2.1 3 rfl
  have c3_2_4 := Mem.cell (v := .string aI) M3.2.2.1 4 rfl
  have z3_2 := Mem.lt M3.2.2.1
  have c3_3_0 := Mem.cell (v := .string t.id) M3.2.2.2.1 0 rfl
  have c3_3_1 := Mem.cell (v := .string t.pa) M3.2.2.2.1 1 rfl
  have c3_3_2 := Mem.cell (v := .string t.cS) M3.2.2.2.1 2 rfl
  have c3_3_3 := Mem.cell (v := .string t.cI) M3.2.2.2.1 3 rfl
  have c3_3_4 := Mem.cell (v := .string t.kS) M3.2.2.2.1 4 rfl
  have c3_3_5 := Mem.cell (v := .string t.kI) M3.2.2.2.1 5 rfl
  have c3_3_6 := Mem.cell (v := .slice t.fr.a t.fr.n t.fr.c) M3.2.2.2.1 6 rfl
  have c3_3_7 := Mem.cell (v := .slice t.sk.a t.sk.n t.sk.c) M3.2.2.2.1 7 rfl
  have c3_3_8 := Mem.cell (v := .slice t.tr.a t.tr.n t.tr.c) M3.2.2.2.1 8 rfl
  have c3_3_9 := Mem.cell (v := .slice t.sc.a t.sc.n t.sc.c) M3.2.2.2.1 9 rfl
  have c3_3_10 := Mem.cell (v := .int .i64 t.md) M3.2.2.2.1 10 rfl
  have c3_3_11 := Mem.cell (v := .int .i64 t.rm) M3.2.2.2.1 11 rfl
  have c3_3_12 := Mem.cell (v := .int .i64 t.st) M3.2.2.2.1 12 rfl
  have c3_3_13 := Mem.cell (v := .string t.on) M3.2.2.2.1 13 rfl
  have c3_3_14 := Mem.cell (v := .int .i64 t.vk) M3.2.2.2.1 14 rfl
  have c3_3_15 := Mem.cell (v := .int .i64 t.vx) M3.2.2.2.1 15 rfl
  have c3_3_16 := Mem.cell (v := .string t.vm) M3.2.2.2.1 16 rfl
  have c3_3_17 := Mem.cell (v := .string t.vS) M3.2.2.2.1 17 rfl
  have c3_3_18 := Mem.cell (v := .string t.vI) M3.2.2.2.1 18 rfl
  have c3_3_19 := Mem.cell (v := .bool t.ex) M3.2.2.2.1 19 rfl
  have z3_3 := Mem.lt M3.2.2.2.1
  simp only
  iterate 16 go_step
  have yS : w.heap.size + 1 + 1 + 1 < w3.heap.size := z3_0
  refine wpl_named ?_
  intro w4 hW4
  have hB4 : Below w.heap.size w w4 := by rw [hW4]; exact (below_al hB3 _)
  have M4 : Mem w4 [(w3.heap.size, .cells (th (th0)) 39), (w.heap.size + 1 + 1 + 1, .cells (th (th0)) 39), (w.heap.size + 1 + 1, .cells #[.string lS, .string lI] 24), (w.heap.size + 1, .cells #[.int .i64 ak, .int .i64 ax, .string am, .string aS, .string aI] 28), (w.heap.size, .cells (th (t)) 39)] := by rw [hW4]; exact (M3).new' (w3.heap.size) (by rfl) (.cells (th (th0)) 39)
  clear z3_0 c3_1_0 c3_1_1 z3_1 c3_2_0 c3_2_1 c3_2_2 c3_2_3 c3_2_4 z3_2 c3_3_0 c3_3_1 c3_3_2 c3_3_3 c3_3_4 c3_3_5 c3_3_6 c3_3_7 c3_3_8 c3_3_9 c3_3_10 c3_3_11 c3_3_12 c3_3_13 c3_3_14 c3_3_15 c3_3_16 c3_3_17 c3_3_18 c3_3_19 z3_3
  clear hW4
  have z4_0 := Mem.lt M4.1
  have z4_1 := Mem.lt M4.2.1
  have c4_2_0 := Mem.cell (v := .string lS) M4.2.2.1 0 rfl
  have c4_2_1 := Mem.cell (v := .string lI) M4.2.2.1 1 rfl
  have z4_2 := Mem.lt M4.2.2.1
  have c4_3_0 := Mem.cell (v := .int .i64 ak) M4.2.2.2.1 0 rfl
  have c4_3_1 := Mem.cell (v := .int .i64 ax) M4.2.2.2.1 1 rfl
  have c4_3_2 := Mem.cell (v := .string am) M4.2.2.2.1 2 rfl
  have c4_3_3 := Mem.cell (v := .string aS) M4.2.2.2.1 3 rfl
  have c4_3_4 := Mem.cell (v := .string aI) M4.2.2.2.1 4 rfl
  have z4_3 := Mem.lt M4.2.2.2.1
  have c4_4_0 := Mem.cell (v := .string t.id) M4.2.2.2.2.1 0 rfl
  have c4_4_1 := Mem.cell (v := .string t.pa) M4.2.2.2.2.1 1 rfl
  have c4_4_2 := Mem.cell (v := .string t.cS) M4.2.2.2.2.1 2 rfl
  have c4_4_3 := Mem.cell (v := .string t.cI) M4.2.2.2.2.1 3 rfl
  have c4_4_4 := Mem.cell (v := .string t.kS) M4.2.2.2.2.1 4 rfl
  have c4_4_5 := Mem.cell (v := .string t.kI) M4.2.2.2.2.1 5 rfl
  have c4_4_6 := Mem.cell (v := .slice t.fr.a t.fr.n t.fr.c) M4.2.2.2.2.1 6 rfl
  have c4_4_7 := Mem.cell (v := .slice t.sk.a t.sk.n t.sk.c) M4.2.2.2.2.1 7 rfl
  have c4_4_8 := Mem.cell (v := .slice t.tr.a t.tr.n t.tr.c) M4.2.2.2.2.1 8 rfl
  have c4_4_9 := Mem.cell (v := .slice t.sc.a t.sc.n t.sc.c) M4.2.2.2.2.1 9 rfl
  have c4_4_10 := Mem.cell (v := .int .i64 t.md) M4.2.2.2.2.1 10 rfl
  have c4_4_11 := Mem.cell (v := .int .i64 t.rm) M4.2.2.2.2.1 11 rfl
  have c4_4_12 := Mem.cell (v := .int .i64 t.st) M4.2.2.2.2.1 12 rfl
  have c4_4_13 := Mem.cell (v := .string t.on) M4.2.2.2.2.1 13 rfl
  have c4_4_14 := Mem.cell (v := .int .i64 t.vk) M4.2.2.2.2.1 14 rfl
  have c4_4_15 := Mem.cell (v := .int .i64 t.vx) M4.2.2.2.2.1 15 rfl
  have c4_4_16 := Mem.cell (v := .string t.vm) M4.2.2.2.2.1 16 rfl
  have c4_4_17 := Mem.cell (v := .string t.vS) M4.2.2.2.2.1 17 rfl
  have c4_4_18 := Mem.cell (v := .string t.vI) M4.2.2.2.2.1 18 rfl
  have c4_4_19 := Mem.cell (v := .bool t.ex) M4.2.2.2.2.1 19 rfl
  have z4_4 := Mem.lt M4.2.2.2.2.1
  refine store_th rfl _ _ rfl (w3.heap.size) rfl (th0) ({ t with md := (t.md + 1), rm := (t.rm - 1) }) rfl M4.1 (one_th _) ?_
  intro w5 hW5
  have hB5 : Below w.heap.size w w5 := by rw [hW5]; exact below_setCells (B := w.heap.size) hB4 (b := w3.heap.size) (by have := hB4.size; omega) 0 _
  have M5 : Mem w5 [(w3.heap.size, .cells (th ({ t with md := (t.md + 1), rm := (t.rm - 1) })) 39), (w.heap.size + 1 + 1 + 1, .cells (th (th0)) 39), (w.heap.size + 1 + 1, .cells #[.string lS, .string lI] 24), (w.heap.size + 1, .cells #[.int .i64 ak, .int .i64 ax, .string am, .string aS, .string aI] 28), (w.heap.size, .cells (th (t)) 39)] := by rw [hW5]; exact ⟨set_th M4.1 _, (setCells_other _ 0 _ _ (by omega)).trans M4.2.1, (setCells_other _ 0 _ _ (by omega)).trans M4.2.2.1, (setCells_other _ 0 _ _ (by omega)).trans M4.2.2.2.1, (setCells_other _ 0 _ _ (by omega)).trans M4.2.2.2.2.1, trivial⟩
  clear z4_0 z4_1 c4_2_0 c4_2_1 z4_2 c4_3_0 c4_3_1 c4_3_2 c4_3_3 c4_3_4 z4_3 c4_4_0 c4_4_1 c4_4_2 c4_4_3 c4_4_4 c4_4_5 c4_4_6 c4_4_7 c4_4_8 c4_4_9 c4_4_10 c4_4_11 c4_4_12 c4_4_13 c4_4_14 c4_4_15 c4_4_16 c4_4_17 c4_4_18 c4_4_19 z4_4
  clear hW5
  have c5_0_0 := Mem.cell (v := .string t.id) M5.1 0 rfl
  have c5_0_1 := Mem.cell (v := .string t.pa) M5.1 1 rfl
  have c5_0_2 := Mem.cell (v := .string t.cS) M5.1 2 rfl
  have c5_0_3 := Mem.cell (v := .string t.cI) M5.1 3 rfl
  have c5_0_4 := Mem.cell (v := .string t.kS) M5.1 4 rfl
  have c5_0_5 := Mem.cell (v := .string t.kI) M5.1 5 rfl
  have c5_0_6 := Mem.cell (v := .slice t.fr.a t.fr.n t.fr.c) M5.1 6 rfl
  have c5_0_7 := Mem.cell (v := .slice t.sk.a t.sk.n t.sk.c) M5.1 7 rfl
  have c5_0_8 := Mem.cell (v := .slice t.tr.a t.tr.n t.tr.c) M5.1 8 rfl
  have c5_0_9 := Mem.cell (v := .slice t.sc.a t.sc.n t.sc.c) M5.1 9 rfl
  have c5_0_10 := Mem.cell (v := .int .i64 (t.md + 1)) M5.1 10 rfl
  have c5_0_11 := Mem.cell (v := .int .i64 (t.rm - 1)) M5.1 11 rfl
  have c5_0_12 := Mem.cell (v := .int .i64 t.st) M5.1 12 rfl
  have c5_0_13 := Mem.cell (v := .string t.on) M5.1 13 rfl
  have c5_0_14 := Mem.cell (v := .int .i64 t.vk) M5.1 14 rfl
  have c5_0_15 := Mem.cell (v := .int .i64 t.vx) M5.1 15 rfl
  have c5_0_16 := Mem.cell (v := .string t.vm) M5.1 16 rfl
  have c5_0_17 := Mem.cell (v := .string t.vS) M5.1 17 rfl
  have c5_0_18 := Mem.cell (v := .string t.vI) M5.1 18 rfl
  have c5_0_19 := Mem.cell (v := .bool t.ex) M5.1 19 rfl
  have z5_0 := Mem.lt M5.1
  have z5_1 := Mem.lt M5.2.1
  have c5_2_0 := Mem.cell (v := .string lS) M5.2.2.1 0 rfl
  have c5_2_1 := Mem.cell (v := .string lI) M5.2.2.1 1 rfl
  have z5_2 := Mem.lt M5.2.2.1
  have c5_3_0 := Mem.cell (v := .int .i64 ak) M5.2.2.2.1 0 rfl
  have c5_3_1 := Mem.cell (v := .int .i64 ax) M5.2.2.2.1 1 rfl
  have c5_3_2 := Mem.cell (v := .string am) M5.2.2.2.1 2 rfl
  have c5_3_3 := Mem.cell (v := .string aS) M5.2.2.2.1 3 rfl
  have c5_3_4 := Mem.cell (v := .string aI) M5.2.2.2.1 4 rfl
  have z5_3 := Mem.lt M5.2.2.2.1
  have c5_4_0 := Mem.cell (v := .string t.id) M5.2.2.2.2.1 0 rfl
  have c5_4_1 := Mem.cell (v := .string t.pa) M5.2.2.2.2.1 1 rfl
  have c5_4_2 := Mem.cell (v := .string t.cS) M5.2.2.2.2.1 2 rfl
  have c5_4_3 := Mem.cell (v := .string t.cI) M5.2.2.2.2.1 3 rfl
  have c5_4_4 := Mem.cell (v := .string t.kS) M5.2.2.2.2.1 4 rfl
  have c5_4_5 := Mem.cell (v := .string t.kI) M5.2.2.2.2.1 5 rfl
  have c5_4_6 := Mem.cell (v := .slice t.fr.a t.fr.n t.fr.c) M5.2.2.2.2.1 6 rfl
  have c5_4_7 := Mem.cell (v := .slice t.sk.a t.sk.n t.sk.c) M5.2.2.2.2.1 7 rfl
  have c5_4_8 := Mem.cell (v := .slice t.tr.a t.tr.n t.tr.c) M5.2.2.2.2.1 8 rfl
  have c5_4_9 := Mem.cell (v := .slice t.sc.a t.sc.n t.sc.c) M5.2.2.2.2.1 9 rfl
  have c5_4_10 := Mem.cell (v := .int .i64 t.md) M5.2.2.2.2.1 10 rfl
  have c5_4_11 := Mem.cell (v := .int .i64 t.rm) M5.2.2.2.2.1 11 rfl
  have c5_4_12 := Mem.cell (v := .int .i64 t.st) M5.2.2.2.2.1 12 rfl
  have c5_4_13 := Mem.cell (v := .string t.on) M5.2.2.2.2.1 13 rfl
  have c5_4_14 := Mem.cell (v := .int .i64 t.vk) M5.2.2.2.2.1 14 rfl
  have c5_4_15 := Mem.cell (v := .int .i64 t.vx) M5.2.2.2.2.1 15 rfl
  have c5_4_16 := Mem.cell (v := .string t.vm) M5.2.2.2.2.1 16 rfl
  have c5_4_17 := Mem.cell (v := .string t.vS) M5.2.2.2.2.1 17 rfl
  have c5_4_18 := Mem.cell (v := .string t.vI) M5.2.2.2.2.1 18 rfl
  have c5_4_19 := Mem.cell (v := .bool t.ex) M5.2.2.2.2.1 19 rfl
  have z5_4 := Mem.lt M5.2.2.2.2.1
  go_upto_region 10 with (fail)
  refine wp_region_lit ?_
  refine load_th rfl _ rfl (w.heap.size) rfl (t) M5.2.2.2.2.1 ?_
  refine store_th rfl _ _ rfl (w.heap.size + 1 + 1 + 1) rfl (th0) (t) rfl M5.2.1 (one_th _) ?_
  intro w6 hW6
  have hB6 : Below w.heap.size w w6 := by rw [hW6]; exact below_setCells (B := w.heap.size) hB5 (b := w.heap.size + 1 + 1 + 1) (by have := hB5.size; omega) 0 _
  have M6 : Mem w6 [(w3.heap.size, .cells (th ({ t with md := (t.md + 1), rm := (t.rm - 1) })) 39), (w.heap.size + 1 + 1 + 1, .cells (th (t)) 39), (w.heap.size + 1 + 1, .cells #[.string lS, .string lI] 24), (w.heap.size + 1, .cells #[.int .i64 ak, .int .i64 ax, .string am, .string aS, .string aI] 28), (w.heap.size, .cells (th (t)) 39)] := by rw [hW6]; exact ⟨(setCells_other _ 0 _ _ (by omega)).trans M5.1, set_th M5.2.1 _, (setCells_other _ 0 _ _ (by omega)).trans M5.2.2.1, (setCells_other _ 0 _ _ (by omega)).trans M5.2.2.2.1, (setCells_other _ 0 _ _ (by omega)).trans M5.2.2.2.2.1, trivial⟩
  clear c5_0_0 c5_0_1 c5_0_2 c5_0_3 c5_0_4 c5_0_5 c5_0_6 c5_0_7 c5_0_8 c5_0_9 c5_0_10 c5_0_11 c5_0_12 c5_0_13 c5_0_14 c5_0_15 c5_0_16 c5_0_17 c5_0_18 c5_0_19 z5_0 z5_1 c5_2_0 c5_2_1 z5_2 c5_3_0 c5_3_1 c5_3_2 c5_3_3 c5_3_4 z5_3 c5_4_0 c5_4_1 c5_4_2 c5_4_3 c5_4_4 c5_4_5 c5_4_6 c5_4_7 c5_4_8 c5_4_9 c5_4_10 c5_4_11 c5_4_12 c5_4_13 c5_4_14 c5_4_15 c5_4_16 c5_4_17 c5_4_18 c5_4_19 z5_4
  clear hW6
  have c6_0_0 := Mem.cell (v := .string t.id) M6.1 0 rfl
  have c6_0_1 := Mem.cell (v := .string t.pa) M6.1 1 rfl
  have c6_0_2 := Mem.cell (v := .string t.cS) M6.1 2 rfl
  have c6_0_3 := Mem.cell (v := .string t.cI) M6.1 3 rfl
  have c6_0_4 := Mem.cell (v := .string t.kS) M6.1 4 rfl
  have c6_0_5 := Mem.cell (v := .string t.kI) M6.1 5 rfl
  have c6_0_6 := Mem.cell (v := .slice t.fr.a t.fr.n t.fr.c) M6.1 6 rfl
  have c6_0_7 := Mem.cell (v := .slice t.sk.a t.sk.n t.sk.c) M6.1 7 rfl
  have c6_0_8 := Mem.cell (v := .slice t.tr.a t.tr.n t.tr.c) M6.1 8 rfl
  have c6_0_9 := Mem.cell (v := .slice t.sc.a t.sc.n t.sc.c) M6.1 9 rfl
  have c6_0_10 := Mem.cell (v := .int .i64 (t.md + 1)) M6.1 10 rfl
  have c6_0_11 := Mem.cell (v := .int .i64 (t.rm - 1)) M6.1 11 rfl
  have c6_0_12 := Mem.cell (v := .int .i64 t.st) M6.1 12 rfl
  have c6_0_13 := Mem.cell (v := .string t.on) M6.1 13 rfl
  have c6_0_14 := Mem.cell (v := .int .i64 t.vk) M6.1 14 rfl
  have c6_0_15 := Mem.cell (v := .int .i64 t.vx) M6.1 15 rfl
  have c6_0_16 := Mem.cell (v := .string t.vm) M6.1 16 rfl
  have c6_0_17 := Mem.cell (v := .string t.vS) M6.1 17 rfl
  have c6_0_18 := Mem.cell (v := .string t.vI) M6.1 18 rfl
  have c6_0_19 := Mem.cell (v := .bool t.ex) M6.1 19 rfl
  have z6_0 := Mem.lt M6.1
  have c6_1_0 := Mem.cell (v := .string t.id) M6.2.1 0 rfl
  have c6_1_1 := Mem.cell (v := .string t.pa) M6.2.1 1 rfl
  have c6_1_2 := Mem.cell (v := .string t.cS) M6.2.1 2 rfl
  have c6_1_3 := Mem.cell (v := .string t.cI) M6.2.1 3 rfl
  have c6_1_4 := Mem.cell (v := .string t.kS) M6.2.1 4 rfl
  have c6_1_5 := Mem.cell (v := .string t.kI) M6.2.1 5 rfl
  have c6_1_6 := Mem.cell (v := .slice t.fr.a t.fr.n t.fr.c) M6.2.1 6 rfl
  have c6_1_7 := Mem.cell (v := .slice t.sk.a t.sk.n t.sk.c) M6.2.1 7 rfl
  have c6_1_8 := Mem.cell (v := .slice t.tr.a t.tr.n t.tr.c) M6.2.1 8 rfl
  have c6_1_9 := Mem.cell (v := .slice t.sc.a t.sc.n t.sc.c) M6.2.1 9 rfl
  have c6_1_10 := Mem.cell (v := .int .i64 t.md) M6.2.1 10 rfl
  have c6_1_11 := Mem.cell (v := .int .i64 t.rm) M6.2.1 11 rfl
  have c6_1_12 := Mem.cell (v := .int .i64 t.st) M6.2.1 12 rfl
  have c6_1_13 := Mem.cell (v := .string t.on) M6.2.1 13 rfl
  have c6_1_14 := Mem.cell (v := .int .i64 t.vk) M6.2.1 14 rfl
  have c6_1_15 := Mem.cell (v := .int .i64 t.vx) M6.2.1 15 rfl
  have c6_1_16 := Mem.cell (v := .string t.vm) M6.2.1 16 rfl
  have c6_1_17 := Mem.cell (v := .string t.vS) M6.2.1 17 rfl
  have c6_1_18 := Mem.cell (v := .string t.vI) M6.2.1 18 rfl
  have c6_1_19 := Mem.cell (v := .bool t.ex) M6.2.1 19 rfl
  have z6_1 := Mem.lt M6.2.1
  have c6_2_0 := Mem.cell (v := .string lS) M6.2.2.1 0 rfl
  have c6_2_1 := Mem.cell (v := .string lI) M6.2.2.1 1 rfl
  have z6_2 := Mem.lt M6.2.2.1
  have c6_3_0 := Mem.cell (v := .int .i64 ak) M6.2.2.2.1 0 rfl
  have c6_3_1 := Mem.cell (v := .int .i64 ax) M6.2.2.2.1 1 rfl
  have c6_3_2 := Mem.cell (v := .string am) M6.2.2.2.1 2 rfl
  have c6_3_3 := Mem.cell (v := .string aS) M6.2.2.2.1 3 rfl
  have c6_3_4 := Mem.cell (v := .string aI) M6.2.2.2.1 4 rfl
  have z6_3 := Mem.lt M6.2.2.2.1
  have c6_4_0 := Mem.cell (v := .string t.id) M6.2.2.2.2.1 0 rfl
  have c6_4_1 := Mem.cell (v := .string t.pa) M6.2.2.2.2.1 1 rfl
  have c6_4_2 := Mem.cell (v := .string t.cS) M6.2.2.2.2.1 2 rfl
  have c6_4_3 := Mem.cell (v := .string t.cI) M6.2.2.2.2.1 3 rfl
  have c6_4_4 := Mem.cell (v := .string t.kS) M6.2.2.2.2.1 4 rfl
  have c6_4_5 := Mem.cell (v := .string t.kI) M6.2.2.2.2.1 5 rfl
  have c6_4_6 := Mem.cell (v := .slice t.fr.a t.fr.n t.fr.c) M6.2.2.2.2.1 6 rfl
  have c6_4_7 := Mem.cell (v := .slice t.sk.a t.sk.n t.sk.c) M6.2.2.2.2.1 7 rfl
  have c6_4_8 := Mem.cell (v := .slice t.tr.a t.tr.n t.tr.c) M6.2.2.2.2.1 8 rfl
  have c6_4_9 := Mem.cell (v := .slice t.sc.a t.sc.n t.sc.c) M6.2.2.2.2.1 9 rfl
  have c6_4_10 := Mem.cell (v := .int .i64 t.md) M6.2.2.2.2.1 10 rfl
  have c6_4_11 := Mem.cell (v := .int .i64 t.rm) M6.2.2.2.2.1 11 rfl
  have c6_4_12 := Mem.cell (v := .int .i64 t.st) M6.2.2.2.2.1 12 rfl
  have c6_4_13 := Mem.cell (v := .string t.on) M6.2.2.2.2.1 13 rfl
  have c6_4_14 := Mem.cell (v := .int .i64 t.vk) M6.2.2.2.2.1 14 rfl
  have c6_4_15 := Mem.cell (v := .int .i64 t.vx) M6.2.2.2.2.1 15 rfl
  have c6_4_16 := Mem.cell (v := .string t.vm) M6.2.2.2.2.1 16 rfl
  have c6_4_17 := Mem.cell (v := .string t.vS) M6.2.2.2.2.1 17 rfl
  have c6_4_18 := Mem.cell (v := .string t.vI) M6.2.2.2.2.1 18 rfl
  have c6_4_19 := Mem.cell (v := .bool t.ex) M6.2.2.2.2.1 19 rfl
  have z6_4 := Mem.lt M6.2.2.2.2.1
  go_wp2_with fail
  refine bodyPost_ret (v := .tuple #[.agg (th t), .int .i64 (-5)]) (results_th2 Tryz.results9 _ _ (w.heap.size + 1 + 1 + 1) (t) rfl M6.2.1) rfl ⟨rfl, hB6⟩
end Go.Proofs.YtnmepcogijgbjaaGreatDoor
/- thread.ladder.levels, label. -/
namespace Go.Proofs.YtnmepcogijgbjaaGreatDoor
open Go.RowKit
set_option maxRecDepth 100000 in
set_option maxHeartbeats 2000000 in
theorem levels_any (v : Sl) (hv : v.n ≤ 1000000) (cS cI : ByteArray) (w : World) :
    Calls Tryz.prog 41 #[.agg #[.slice v.a v.n v.c, .string cS, .string cI]] w fun e w' => e = .returned (.int .i64 ((v.n : Int) + 1)) ∧ Below w.heap.size w w' := by
  have e1 : IntKind.i64.wrap ((v.n : Int) + 1) = (v.n : Int) + 1 := IntWalk.i64_in _ ⟨by omega, by omega⟩
  go_enter Tryz.func41, Tryz.ntmps41
  have hB0 := Below.refl w.heap.size w
  have M0 := Mem.nil w
  go_upto_region 1 with (fail)
  refine wp_named ?_
  intro w1 hW1
  have hB1 : Below w.heap.size w w1 := by rw [hW1]; exact (below_al hB0 _)
  have M1 := (M0).new' (w.heap.size) (by rfl) (.cells #[.slice v.a v.n v.c, .string cS, .string cI] 76)
  rw [← hW1] at M1
  clear hW1
  have c1_0_0 := Mem.cell (v := .slice v.a v.n v.c) M1.1 0 rfl
  have c1_0_1 := Mem.cell (v := .string cS) M1.1 1 rfl
  have c1_0_2 := Mem.cell (v := .string cI) M1.1 2 rfl
  have z1_0 := Mem.lt M1.1
  go_wp2_with fail
  go_ret
  exact ⟨rfl, hB1⟩
set_option maxRecDepth 100000 in
set_option maxHeartbeats 2000000 in
theorem label_last (v : Sl) (cS cI : ByteArray) (w : World) :
    Calls Tryz.prog 62 #[.agg #[.slice v.a v.n v.c, .string cS, .string cI], .int .i64 v.n] w fun e w' => e = .returned (.agg #[.string cS, .string cI]) ∧ Below w.heap.size w w' := by
  have g2 : ¬ ((v.n : Int) < (v.n : Int)) := by omega
  go_enter Tryz.func62, Tryz.ntmps62
  have hB0 := Below.refl w.heap.size w
  have M0 := Mem.nil w
  go_upto_region 1 with (fail)
  refine wp_named ?_
  intro w1 hW1
  have hB1 : Below w.heap.size w w1 := by rw [hW1]; exact (below_al (below_al hB0 _) _)
  have M1 := ((M0).new' (w.heap.size) (by rfl) (.cells #[.slice v.a v.n v.c, .string cS, .string cI] 76)).new' (w.heap.size + 1) (by simp) (.cells #[.string ⟨#[]⟩, .string ⟨#[]⟩] 24)
  rw [← hW1] at M1
  clear hW1
  have c1_0_0 := Mem.cell (v := .string ⟨#[]⟩) M1.1 0 rfl
  have c1_0_1 := Mem.cell (v := .string ⟨#[]⟩) M1.1 1 rfl
  have z1_0 := Mem.lt M1.1
  have c1_1_0 := Mem.cell (v := .slice v.a v.n v.c) M1.2.1 0 rfl
  have c1_1_1 := Mem.cell (v := .string cS) M1.2.1 1 rfl
  have c1_1_2 := Mem.cell (v := .string cI) M1.2.1 2 rfl
  have z1_1 := Mem.lt M1.2.1
  have f0 := fun j => Mem.free M1.1 j
  go_wp2_with fail
  have hX1 := set_block (M1).1 [.string cS, .string cI] rfl
  have hY1 := below_setCells (B := w.heap.size) hB1 (b := w.heap.size + 1) (by have := hB1.size; omega) 0 [.string cS, .string cI]
  obtain ⟨W_e, hW_e⟩ : ∃ W_e, W_e = w1.setCells (w.heap.size + 1) 0 [.string cS, .string cI] := ⟨_, rfl⟩
  rw [← hW_e] at hX1 hY1
  refine at_world hW_e ?_
  have k_0 := Mem.cell (v := .string cS) hX1 0 rfl
  have k_1 := Mem.cell (v := .string cI) hX1 1 rfl
  refine bodyPost_ret (v := .agg #[.string cS, .string cI]) (by simp [results, Tryz.results62, go_sem, k_0, k_1]) rfl ⟨rfl, hY1⟩
set_option maxRecDepth 100000 in
set_option maxHeartbeats 2000000 in
theorem label_at (v : Sl) (l : List Sc) (k : Nat) (hkl : k < l.length) (cS cI : ByteArray) (w : World) (h : ScAt w v l) :
    Calls Tryz.prog 62 #[.agg #[.slice v.a v.n v.c, .string cS, .string cI], .int .i64 (k : Int)] w fun e w' => e = .returned (.agg #[.string l[k].cS, .string l[k].cI]) ∧ Below w.heap.size w w' := by
  have hn := h.len
  have g1 : (0 : Int) ≤ (k : Int) := by omega
  have g2 : (k : Int) < (v.n : Int) := by omega
  obtain ⟨s, hs⟩ : ∃ s, s = l[k] := ⟨_, rfl⟩
  rw [← hs]
  have HSS := Lib.hid hs
  have HSC := Lib.hid fun (W : World) (hb : Below w.heap.size w W) => h.below hb
  clear hs h hn
  go_enter Tryz.func62, Tryz.ntmps62
  have hB0 := Below.refl w.heap.size w
  have M0 := Mem.nil w
  go_upto_region 1 with (fail)
  refine wp_named ?_
  intro w1 hW1
  have hB1 : Below w.heap.size w w1 := by rw [hW1]; exact (below_al (below_al hB0 _) _)
  have M1 := ((M0).new' (w.heap.size) (by rfl) (.cells #[.slice v.a v.n v.c, .string cS, .string cI] 76)).new' (w.heap.size + 1) (by simp) (.cells #[.string ⟨#[]⟩, .string ⟨#[]⟩] 24)
  rw [← hW1] at M1
  clear hW1
  have c1_0_0 := Mem.cell (v := .string ⟨#[]⟩) M1.1 0 rfl
  have c1_0_1 := Mem.cell (v := .string ⟨#[]⟩) M1.1 1 rfl
  have z1_0 := Mem.lt M1.1
  have c1_1_0 := Mem.cell (v := .slice v.a v.n v.c) M1.2.1 0 rfl
  have c1_1_1 := Mem.cell (v := .string cS) M1.2.1 1 rfl
  have c1_1_2 := Mem.cell (v := .string cI) M1.2.1 2 rfl
  have z1_1 := Mem.lt M1.2.1
  obtain ⟨b, off, hva, hvc, hbl, hrg⟩ := (HSC.out _ hB1).row hkl
  rw [← HSS.out] at hrg
  rw [hva] at c1_1_0
  have q7 := hrg 7 (.string s.cS) rfl
  have q8 := hrg 8 (.string s.cI) rfl
  clear hrg
  have f0 := fun j => Mem.free M1.1 j
  go_wp2_with fail
  have hX1 := set_block (M1).1 [.string s.cS, .string s.cI] rfl
  have hY1 := below_setCells (B := w.heap.size) hB1 (b := w.heap.size + 1) (by have := hB1.size; omega) 0 [.string s.cS, .string s.cI]
  obtain ⟨W_e, hW_e⟩ : ∃ W_e, W_e = w1.setCells (w.heap.size + 1) 0 [.string s.cS, .string s.cI] := ⟨_, rfl⟩
  rw [← hW_e] at hX1 hY1
  refine at_world hW_e ?_
  have k_0 := Mem.cell (v := .string s.cS) hX1 0 rfl
  have k_1 := Mem.cell (v := .string s.cI) hX1 1 rfl
  refine bodyPost_ret (v := .agg #[.string s.cS, .string s.cI]) (by simp [results, Tryz.results62, go_sem, k_0, k_1]) rfl ⟨rfl, hY1⟩
end Go.Proofs.YtnmepcogijgbjaaGreatDoor
