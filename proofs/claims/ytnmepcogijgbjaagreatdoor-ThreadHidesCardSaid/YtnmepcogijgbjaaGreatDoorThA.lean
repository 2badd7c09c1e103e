/- thread.New, parts, Name over a thread under one letter. -/
import Derived.Test.YtnmepcogijgbjaaGreatDoorTh
import Derived.Test.YtnmepcogijgbjaaGreatDoorZN
import Derived.Test.YtnmepcogijgbjaaGreatDoorCoreE
namespace Go.Proofs.YtnmepcogijgbjaaGreatDoor
open Go.RowKit
set_option maxRecDepth 100000 in
set_option maxHeartbeats 2000000 in
theorem parts_any (t : Th) (w : World) :
    Calls Tryz.prog 29 #[.agg (th t)] w fun e w' => e = .returned (.agg #[.slice t.sc.a t.sc.n t.sc.c, .string t.cS, .string t.cI]) ∧ Below w.heap.size w w' := by
  go_enter Tryz.func29, Tryz.ntmps29
  have hB0 := Below.refl w.heap.size w
  have M0 := Mem.nil w
  go_upto_region 1 with (fail)
  refine wp_named ?_
  intro w1 hW1
  have hB1 : Below w.heap.size w w1 := by rw [hW1]; exact (below_al (below_al hB0 _) _)
  have M1 : Mem w1 [(w.heap.size + 1, .cells #[.slice none 0 0, .string ⟨#[]⟩, .string ⟨#[]⟩] 78), (w.heap.size, .cells (th (t)) 39)] := by rw [hW1]; exact ((M0).new' (w.heap.size) (by rfl) (.cells (th (t)) 39)).new' (w.heap.size + 1) (by simp) (.cells #[.slice none 0 0, .string ⟨#[]⟩, .string ⟨#[]⟩] 78)
  clear hW1
  have c1_0_0 := Mem.cell (v := .slice none 0 0) M1.1 0 rfl
  have c1_0_1 := Mem.cell (v := .string ⟨#[]⟩) M1.1 1 rfl
  have c1_0_2 := Mem.cell (v := .string ⟨#[]⟩) M1.1 2 rfl
  have z1_0 := Mem.lt M1.1
  have c1_1_0 := Mem.cell (v := .string t.id) M1.2.1 0 rfl
  have c1_1_1 := Mem.cell (v := .string t.pa) M1.2.1 1 rfl
  have c1_1_2 := Mem.cell (v := .string t.cS) M1.2.1 2 rfl
  have c1_1_3 := Mem.cell (v := .string t.cI) M1.2.1 3 rfl
  have c1_1_4 := Mem.cell (v := .string t.kS) M1.2.1 4 rfl
  have c1_1_5 := Mem.cell (v := .string t.kI) M1.2.1 5 rfl
  have c1_1_6 := Mem.cell (v := .slice t.fr.a t.fr.n t.fr.c) M1.2.1 6 rfl
  have c1_1_7 := Mem.cell (v := .slice t.sk.a t.sk.n t.sk.c) M1.2.1 7 rfl
  have c1_1_8 := Mem.cell (v := .slice t.tr.a t.tr.n t.tr.c) M1.2.1 8 rfl
  have c1_1_9 := Mem.cell (v := .slice t.sc.a t.sc.n t.sc.c) M1.2.1 9 rfl
  have c1_1_10 := Mem.cell (v := .int .i64 t.md) M1.2.1 10 rfl
  have c1_1_11 := Mem.cell (v := .int .i64 t.rm) M1.2.1 11 rfl
  have c1_1_12 := Mem.cell (v := .int .i64 t.st) M1.2.1 12 rfl
  have c1_1_13 := Mem.cell (v := .string t.on) M1.2.1 13 rfl
  have c1_1_14 := Mem.cell (v := .int .i64 t.vk) M1.2.1 14 rfl
  have c1_1_15 := Mem.cell (v := .int .i64 t.vx) M1.2.1 15 rfl
  have c1_1_16 := Mem.cell (v := .string t.vm) M1.2.1 16 rfl
  have c1_1_17 := Mem.cell (v := .string t.vS) M1.2.1 17 rfl
  have c1_1_18 := Mem.cell (v := .string t.vI) M1.2.1 18 rfl
  have c1_1_19 := Mem.cell (v := .bool t.ex) M1.2.1 19 rfl
  have z1_1 := Mem.lt M1.2.1
  have f0 := fun j => Mem.free M1.1 j
  go_wp2_with fail
  have hX1 := set_block (M1).1 [.slice t.sc.a t.sc.n t.sc.c, .string t.cS, .string t.cI] rfl
  have hY1 := below_setCells (B := w.heap.size) hB1 (b := w.heap.size + 1) (by have := hB1.size; omega) 0 [.slice t.sc.a t.sc.n t.sc.c, .string t.cS, .string t.cI]
  obtain ⟨W_e, hW_e⟩ : ∃ W_e, W_e = w1.setCells (w.heap.size + 1) 0 [.slice t.sc.a t.sc.n t.sc.c, .string t.cS, .string t.cI] := ⟨_, rfl⟩
  rw [← hW_e] at hX1 hY1
  refine at_world hW_e ?_
  have k_0 := Mem.cell (v := .slice t.sc.a t.sc.n t.sc.c) hX1 0 rfl
  have k_1 := Mem.cell (v := .string t.cS) hX1 1 rfl
  have k_2 := Mem.cell (v := .string t.cI) hX1 2 rfl
  refine bodyPost_ret (v := .agg #[.slice t.sc.a t.sc.n t.sc.c, .string t.cS, .string t.cI]) (by simp [results, Tryz.results29, go_sem, k_0, k_1, k_2]) rfl ⟨rfl, hY1⟩
set_option maxRecDepth 100000 in
set_option maxHeartbeats 2000000 in
theorem name_no_room (t : Th) (hrm : t.rm < 1) (w : World) :
    Calls Tryz.prog 19 #[.agg (th t)] w fun e w' => e = .returned (.tuple #[.agg (th t), .string ⟨#[]⟩, .bool false]) ∧ Below w.heap.size w w' := by
  have hrm1 : decide (t.rm < 1) = true := by simpa using hrm
  go_enter Tryz.func19, Tryz.ntmps19
  have hB0 := Below.refl w.heap.size w
  have M0 := Mem.nil w
  go_upto_region 1 with (fail)
  refine wp_named ?_
  intro w1 hW1
  have hB1 : Below w.heap.size w w1 := by rw [hW1]; exact (below_al (below_al hB0 _) _)
  have M1 : Mem w1 [(w.heap.size + 1, .cells (th (th0)) 39), (w.heap.size, .cells (th (t)) 39)] := by rw [hW1]; exact ((M0).new' (w.heap.size) (by rfl) (.cells (th (t)) 39)).new' (w.heap.size + 1) (by simp) (.cells (th (th0)) 39)
  clear hW1
  have z1_0 := Mem.lt M1.1
  have c1_1_0 := Mem.cell (v := .string t.id) M1.2.1 0 rfl
  have c1_1_1 := Mem.cell (v := .string t.pa) M1.2.1 1 rfl
  have c1_1_2 := Mem.cell (v := .string t.cS) M1.2.1 2 rfl
  have c1_1_3 := Mem.cell (v := .string t.cI) M1.2.1 3 rfl
  have c1_1_4 := Mem.cell (v := .string t.kS) M1.2.1 4 rfl
  have c1_1_5 := Mem.cell (v := .string t.kI) M1.2.1 5 rfl
  have c1_1_6 := Mem.cell (v := .slice t.fr.a t.fr.n t.fr.c) M1.2.1 6 rfl
  have c1_1_7 := Mem.cell (v := .slice t.sk.a t.sk.n t.sk.c) M1.2.1 7 rfl
  have c1_1_8 := Mem.cell (v := .slice t.tr.a t.tr.n t.tr.c) M1.2.1 8 rfl
  have c1_1_9 := Mem.cell (v := .slice t.sc.a t.sc.n t.sc.c) M1.2.1 9 rfl
  have c1_1_10 := Mem.cell (v := .int .i64 t.md) M1.2.1 10 rfl
  have c1_1_11 := Mem.cell (v := .int .i64 t.rm) M1.2.1 11 rfl
  have c1_1_12 := Mem.cell (v := .int .i64 t.st) M1.2.1 12 rfl
  have c1_1_13 := Mem.cell (v := .string t.on) M1.2.1 13 rfl
  have c1_1_14 := Mem.cell (v := .int .i64 t.vk) M1.2.1 14 rfl
  have c1_1_15 := Mem.cell (v := .int .i64 t.vx) M1.2.1 15 rfl
  have c1_1_16 := Mem.cell (v := .string t.vm) M1.2.1 16 rfl
  have c1_1_17 := Mem.cell (v := .string t.vS) M1.2.1 17 rfl
  have c1_1_18 := Mem.cell (v := .string t.vI) M1.2.1 18 rfl
  have c1_1_19 := Mem.cell (v := .bool t.ex) M1.2.1 19 rfl
  have z1_1 := Mem.lt M1.2.1
  go_upto_region 2 with (fail)
  refine wp_region_lit ?_
  refine load_th rfl _ rfl (w.heap.size) rfl (t) M1.2.1 ?_
  refine store_th rfl _ _ rfl (w.heap.size + 1) rfl (th0) (t) rfl M1.1 (one_th _) ?_
  intro w2 hW2
  have hB2 : Below w.heap.size w w2 := by rw [hW2]; exact below_setCells (B := w.heap.size) hB1 (b := w.heap.size + 1) (by have := hB1.size; omega) 0 _
  have M2 : Mem w2 [(w.heap.size + 1, .cells (th (t)) 39), (w.heap.size, .cells (th (t)) 39)] := by rw [hW2]; exact ⟨set_th M1.1 _, (setCells_other _ 0 _ _ (by omega)).trans M1.2.1, trivial⟩
  clear z1_0 c1_1_0 c1_1_1 c1_1_2 c1_1_3 c1_1_4 c1_1_5 c1_1_6 c1_1_7 c1_1_8 c1_1_9 c1_1_10 c1_1_11 c1_1_12 c1_1_13 c1_1_14 c1_1_15 c1_1_16 c1_1_17 c1_1_18 c1_1_19 z1_1
  clear hW2
  have c2_0_0 := Mem.cell (v := .string t.id) M2.1 0 rfl
  have c2_0_1 := Mem.cell (v := .string t.pa) M2.1 1 rfl
  have c2_0_2 := Mem.cell (v := .string t.cS) M2.1 2 rfl
  have c2_0_3 := Mem.cell (v := .string t.cI) M2.1 3 rfl
  have c2_0_4 := Mem.cell (v := .string t.kS) M2.1 4 rfl
  have c2_0_5 := Mem.cell (v := .string t.kI) M2.1 5 rfl
  have c2_0_6 := Mem.cell (v := .slice t.fr.a t.fr.n t.fr.c) M2.1 6 rfl
  have c2_0_7 := Mem.cell (v := .slice t.sk.a t.sk.n t.sk.c) M2.1 7 rfl
  have c2_0_8 := Mem.cell (v := .slice t.tr.a t.tr.n t.tr.c) M2.1 8 rfl
  have c2_0_9 := Mem.cell (v := .slice t.sc.a t.sc.n t.sc.c) M2.1 9 rfl
  have c2_0_10 := Mem.cell (v := .int .i64 t.md) M2.1 10 rfl
  have c2_0_11 := Mem.cell (v := .int .i64 t.rm) M2.1 11 rfl
  have c2_0_12 := Mem.cell (v := .int .i64 t.st) M2.1 12 rfl
  have c2_0_13 := Mem.cell (v := .string t.on) M2.1 13 rfl
  have c2_0_14 := Mem.cell (v := .int .i64 t.vk) M2.1 14 rfl
  have c2_0_15 := Mem.cell (v := .int .i64 t.vx) M2.1 15 rfl
  have c2_0_16 := Mem.cell (v := .string t.vm) M2.1 16 rfl
  have c2_0_17 := Mem.cell (v := .string t.vS) M2.1 17 rfl
  have c2_0_18 := Mem.cell (v := .string t.vI) M2.1 18 rfl
  have c2_0_19 := Mem.cell (v := .bool t.ex) M2.1 19 rfl
  have z2_0 := Mem.lt M2.1
  have c2_1_0 := Mem.cell (v := .string t.id) M2.2.1 0 rfl
  have c2_1_1 := Mem.cell (v := .string t.pa) M2.2.1 1 rfl
  have c2_1_2 := Mem.cell (v := .string t.cS) M2.2.1 2 rfl
  have c2_1_3 := Mem.cell (v := .string t.cI) M2.2.1 3 rfl
  have c2_1_4 := Mem.cell (v := .string t.kS) M2.2.1 4 rfl
  have c2_1_5 := Mem.cell (v := .string t.kI) M2.2.1 5 rfl
  have c2_1_6 := Mem.cell (v := .slice t.fr.a t.fr.n t.fr.c) M2.2.1 6 rfl
  have c2_1_7 := Mem.cell (v := .slice t.sk.a t.sk.n t.sk.c) M2.2.1 7 rfl
  have c2_1_8 := Mem.cell (v := .slice t.tr.a t.tr.n t.tr.c) M2.2.1 8 rfl
  have c2_1_9 := Mem.cell (v := .slice t.sc.a t.sc.n t.sc.c) M2.2.1 9 rfl
  have c2_1_10 := Mem.cell (v := .int .i64 t.md) M2.2.1 10 rfl
  have c2_1_11 := Mem.cell (v := .int .i64 t.rm) M2.2.1 11 rfl
  have c2_1_12 := Mem.cell (v := .int .i64 t.st) M2.2.1 12 rfl
  have c2_1_13 := Mem.cell (v := .string t.on) M2.2.1 13 rfl
  have c2_1_14 := Mem.cell (v := .int .i64 t.vk) M2.2.1 14 rfl
  have c2_1_15 := Mem.cell (v := .int .i64 t.vx) M2.2.1 15 rfl
  have c2_1_16 := Mem.cell (v := .string t.vm) M2.2.1 16 rfl
  have c2_1_17 := Mem.cell (v := .string t.vS) M2.2.1 17 rfl
  have c2_1_18 := Mem.cell (v := .string t.vI) M2.2.1 18 rfl
  have c2_1_19 := Mem.cell (v := .bool t.ex) M2.2.1 19 rfl
  have z2_1 := Mem.lt M2.2.1
  go_wp2_with fail
  refine bodyPost_ret (v := .tuple #[.agg (th t), .string ⟨#[]⟩, .bool false]) (results_th3 Tryz.results19 _ _ (w.heap.size + 1) (t) rfl M2.1) rfl ⟨rfl, hB2⟩
set_option maxRecDepth 100000 in
set_option maxHeartbeats 2000000 in
theorem name_gen_ok (t : Th) (hrm : 1 ≤ t.rm) (hrm2 : t.rm ≤ 1000) (hmd : 0 ≤ t.md) (hmd2 : t.md ≤ 1000) (nw : ByteArray) (Lq : World → Prop) (hL : ∀ w w', Lq w → Below w.heap.size w w' → Lq w') (h : ∀ w, Lq w → Calls Tryz.prog 44 #[.string t.pa, .int .i64 t.md] w fun e w' => e = .returned (.tuple #[.string nw, .bool true]) ∧ Below w.heap.size w w') (w : World) (hq : Lq w) :
    Calls Tryz.prog 19 #[.agg (th t)] w fun e w' => e = .returned (.tuple #[.agg (th { t with md := t.md + 1, rm := t.rm - 1 }), .string nw, .bool true]) ∧ Below w.heap.size w w' := by
  have hrm1 : decide (t.rm < 1) = false := by simp; omega
  have HQ := Lib.hid fun (W : World) (hb : Below w.heap.size w W) => hL w W hq hb
  clear hq hL
  go_enter Tryz.func19, Tryz.ntmps19
  have hB0 := Below.refl w.heap.size w
  have M0 := Mem.nil w
  go_upto_region 1 with (fail)
  refine wp_named ?_
  intro w1 hW1
  have hB1 : Below w.heap.size w w1 := by rw [hW1]; exact (below_al (below_al hB0 _) _)
  have M1 : Mem w1 [(w.heap.size + 1, .cells (th (th0)) 39), (w.heap.size, .cells (th (t)) 39)] := by rw [hW1]; exact ((M0).new' (w.heap.size) (by rfl) (.cells (th (t)) 39)).new' (w.heap.size + 1) (by simp) (.cells (th (th0)) 39)
  clear hW1
  have z1_0 := Mem.lt M1.1
  have c1_1_0 := Mem.cell (v := .string t.id) M1.2.1 0 rfl
  have c1_1_1 := Mem.cell (v := .string t.pa) M1.2.1 1 rfl
  have c1_1_2 := Mem.cell (v := .string t.cS) M1.2.1 2 rfl
  have c1_1_3 := Mem.cell (v := .string t.cI) M1.2.1 3 rfl
  have c1_1_4 := Mem.cell (v := .string t.kS) M1.2.1 4 rfl
  have c1_1_5 := Mem.cell (v := .string t.kI) M1.2.1 5 rfl
  have c1_1_6 := Mem.cell (v := .slice t.fr.a t.fr.n t.fr.c) M1.2.1 6 rfl
  have c1_1_7 := Mem.cell (v := .slice t.sk.a t.sk.n t.sk.c) M1.2.1 7 rfl
  have c1_1_8 := Mem.cell (v := .slice t.tr.a t.tr.n t.tr.c) M1.2.1 8 rfl
  have c1_1_9 := Mem.cell (v := .slice t.sc.a t.sc.n t.sc.c) M1.2.1 9 rfl
  have c1_1_10 := Mem.cell (v := .int .i64 t.md) M1.2.1 10 rfl
  have c1_1_11 := Mem.cell (v := .int .i64 t.rm) M1.2.1 11 rfl
  have c1_1_12 := Mem.cell (v := .int .i64 t.st) M1.2.1 12 rfl
  have c1_1_13 := Mem.cell (v := .string t.on) M1.2.1 13 rfl
  have c1_1_14 := Mem.cell (v := .int .i64 t.vk) M1.2.1 14 rfl
  have c1_1_15 := Mem.cell (v := .int .i64 t.vx) M1.2.1 15 rfl
  have c1_1_16 := Mem.cell (v := .string t.vm) M1.2.1 16 rfl
  have c1_1_17 := Mem.cell (v := .string t.vS) M1.2.1 17 rfl
  have c1_1_18 := Mem.cell (v := .string t.vI) M1.2.1 18 rfl
  have c1_1_19 := Mem.cell (v := .bool t.ex) M1.2.1 19 rfl
  have z1_1 := Mem.lt M1.2.1
  go_wp2_with fail
  refine Calls.named ?_
  intro W2 hW2
  have hB2_ : Below w.heap.size w W2 := by rw [hW2]; exact hB1
  have M2_ := M1
  rw [← hW2] at M2_
  clear hW2
  have ZZ2_0 := Lib.hid (Mem.lt M2_.1)
  have ZZ2_1 := Lib.hid (Mem.lt M2_.2.1)
  clear z1_0 c1_1_0 c1_1_1 c1_1_2 c1_1_3 c1_1_4 c1_1_5 c1_1_6 c1_1_7 c1_1_8 c1_1_9 c1_1_10 c1_1_11 c1_1_12 c1_1_13 c1_1_14 c1_1_15 c1_1_16 c1_1_17 c1_1_18 c1_1_19 z1_1
  refine (h _ (HQ.out _ hB2_)).mono ?_
  rintro e w2 ⟨rfl, hb2⟩
  have hB2 := below_then hB2_ hb2
  have M2 := M2_.below hb2
  clear M2_ hB2_ hb2
  have z2_0 := Mem.lt M2.1
  have c2_1_0 := Mem.cell (v := .string t.id) M2.2.1 0 rfl
  have c2_1_1 := Mem.cell (v := .string t.pa) M2.2.1 1 rfl
  have c2_1_2 := Mem.cell (v := .string t.cS) M2.2.1 2 rfl
  have c2_1_3 := Mem.cell (v := .string t.cI) M2.2.1 3 rfl
  have c2_1_4 := Mem.cell (v := .string t.kS) M2.2.1 4 rfl
  have c2_1_5 := Mem.cell (v := .string t.kI) M2.2.1 5 rfl
  have c2_1_6 := Mem.cell (v := .slice t.fr.a t.fr.n t.fr.c) M2.2.1 6 rfl
  have c2_1_7 := Mem.cell (v := .slice t.sk.a t.sk.n t.sk.c) M2.2.1 7 rfl
  have c2_1_8 := Mem.cell (v := .slice t.tr.a t.tr.n t.tr.c) M2.2.1 8 rfl
  have c2_1_9 := Mem.cell (v := .slice t.sc.a t.sc.n t.sc.c) M2.2.1 9 rfl
  have c2_1_10 := Mem.cell (v := .int .i64 t.md) M2.2.1 10 rfl
  have c2_1_11 := Mem.cell (v := .int .i64 t.rm) M2.2.1 11 rfl
  have c2_1_12 := Mem.cell (v := .int .i64 t.st) M2.2.1 12 rfl
  have c2_1_13 := Mem.cell (v := .string t.on) M2.2.1 13 rfl
  have c2_1_14 := Mem.cell (v := .int .i64 t.vk) M2.2.1 14 rfl
  have c2_1_15 := Mem.cell (v := .int .i64 t.vx) M2.2.1 15 rfl
  have c2_1_16 := Mem.cell (v := .string t.vm) M2.2.1 16 rfl
  have c2_1_17 := Mem.cell (v := .string t.vS) M2.2.1 17 rfl
  have c2_1_18 := Mem.cell (v := .string t.vI) M2.2.1 18 rfl
  have c2_1_19 := Mem.cell (v := .bool t.ex) M2.2.1 19 rfl
  have z2_1 := Mem.lt M2.2.1
  have f1 := fun j => Mem.free M2.2.1 j
  go_upto_region 7 with (fail)
  have hX2 : (w2.setCells (w.heap.size) 10 [.int .i64 (t.md + 1)]).heap[w.heap.size]? = some (.cells (th ({ t with md := (t.md + 1) })) 39) := by rw [setCells_block [.int .i64 (t.md + 1)] 10 _ _ (M2).2.1 (by simp)]; rfl
  have hY2 := below_setCells (B := w.heap.size) hB2 (b := w.heap.size) (by have := hB2.size; omega) 10 [.int .i64 (t.md + 1)]
  refine wp_named ?_
  intro w3 hW3
  have hB3 : Below w.heap.size w w3 := by rw [hW3]; exact hY2
  have M3 : Mem w3 [(w.heap.size + 1, .cells (th (th0)) 39), (w.heap.size, .cells (th ({ t with md := (t.md + 1) })) 39)] := by rw [hW3]; exact ⟨(setCells_other [.int .i64 (t.md + 1)] 10 _ _ (by omega)).trans (M2).1, hX2, trivial⟩
  clear z2_0 c2_1_0 c2_1_1 c2_1_2 c2_1_3 c2_1_4 c2_1_5 c2_1_6 c2_1_7 c2_1_8 c2_1_9 c2_1_10 c2_1_11 c2_1_12 c2_1_13 c2_1_14 c2_1_15 c2_1_16 c2_1_17 c2_1_18 c2_1_19 z2_1
  clear hW3 hX2 hY2
  have z3_0 := Mem.lt M3.1
  have c3_1_0 := Mem.cell (v := .string t.id) M3.2.1 0 rfl
  have c3_1_1 := Mem.cell (v := .string t.pa) M3.2.1 1 rfl
  have c3_1_2 := Mem.cell (v := .string t.cS) M3.2.1 2 rfl
  have c3_1_3 := Mem.cell (v := .string t.cI) M3.2.1 3 rfl
  have c3_1_4 := Mem.cell (v := .string t.kS) M3.2.1 4 rfl
  have c3_1_5 := Mem.cell (v := .string t.kI) M3.2.1 5 rfl
  have c3_1_6 := Mem.cell (v := .slice t.fr.a t.fr.n t.fr.c) M3.2.1 6 rfl
  have c3_1_7 := Mem.cell (v := .slice t.sk.a t.sk.n t.sk.c) M3.2.1 7 rfl
  have c3_1_8 := Mem.cell (v := .slice t.tr.a t.tr.n t.tr.c) M3.2.1 8 rfl
  have c3_1_9 := Mem.cell (v := .slice t.sc.a t.sc.n t.sc.c) M3.2.1 9 rfl
  have c3_1_10 := Mem.cell (v := .int .i64 (t.md + 1)) M3.2.1 10 rfl
  have c3_1_11 := Mem.cell (v := .int .i64 t.rm) M3.2.1 11 rfl
  have c3_1_12 := Mem.cell (v := .int .i64 t.st) M3.2.1 12 rfl
  have c3_1_13 := Mem.cell (v := .string t.on) M3.2.1 13 rfl
  have c3_1_14 := Mem.cell (v := .int .i64 t.vk) M3.2.1 14 rfl
  have c3_1_15 := Mem.cell (v := .int .i64 t.vx) M3.2.1 15 rfl
  have c3_1_16 := Mem.cell (v := .string t.vm) M3.2.1 16 rfl
  have c3_1_17 := Mem.cell (v := .string t.vS) M3.2.1 17 rfl
  have c3_1_18 := Mem.cell (v := .string t.vI) M3.2.1 18 rfl
  have c3_1_19 := Mem.cell (v := .bool t.ex) M3.2.1 19 rfl
  have z3_1 := Mem.lt M3.2.1
  have f2 := fun j => Mem.free M3.2.1 j
  go_upto_region 8 with (fail)
  have hX3 : (w3.setCells (w.heap.size) 11 [.int .i64 (t.rm - 1)]).heap[w.heap.size]? = some (.cells (th ({ t with md := (t.md + 1), rm := (t.rm - 1) })) 39) := by rw [setCells_block [.int .i64 (t.rm - 1)] 11 _ _ (M3).2.1 (by simp)]; rfl
  have hY3 := below_setCells (B := w.heap.size) hB3 (b := w.heap.size) (by have := hB3.size; omega) 11 [.int .i64 (t.rm - 1)]
  refine wp_named ?_
  intro w4 hW4
  have hB4 : Below w.heap.size w w4 := by rw [hW4]; exact hY3
  have M4 : Mem w4 [(w.heap.size + 1, .cells (th (th0)) 39), (w.heap.size, .cells (th ({ t with md := (t.md + 1), rm := (t.rm - 1) })) 39)] := by rw [hW4]; exact ⟨(setCells_other [.int .i64 (t.rm - 1)] 11 _ _ (by omega)).trans (M3).1, hX3, trivial⟩
  clear z3_0 c3_1_0 c3_1_1 c3_1_2 c3_1_3 c3_1_4 c3_1_5 c3_1_6 c3_1_7 c3_1_8 c3_1_9 c3_1_10 c3_1_11 c3_1_12 c3_1_13 c3_1_14 c3_1_15 c3_1_16 c3_1_17 c3_1_18 c3_1_19 z3_1
  clear hW4 hX3 hY3
  have z4_0 := Mem.lt M4.1
  have c4_1_0 := Mem.cell (v := .string t.id) M4.2.1 0 rfl
  have c4_1_1 := Mem.cell (v := .string t.pa) M4.2.1 1 rfl
  have c4_1_2 := Mem.cell (v := .string t.cS) M4.2.1 2 rfl
  have c4_1_3 := Mem.cell (v := .string t.cI) M4.2.1 3 rfl
  have c4_1_4 := Mem.cell (v := .string t.kS) M4.2.1 4 rfl
  have c4_1_5 := Mem.cell (v := .string t.kI) M4.2.1 5 rfl
  have c4_1_6 := Mem.cell (v := .slice t.fr.a t.fr.n t.fr.c) M4.2.1 6 rfl
  have c4_1_7 := Mem.cell (v := .slice t.sk.a t.sk.n t.sk.c) M4.2.1 7 rfl
  have c4_1_8 := Mem.cell (v := .slice t.tr.a t.tr.n t.tr.c) M4.2.1 8 rfl
  have c4_1_9 := Mem.cell (v := .slice t.sc.a t.sc.n t.sc.c) M4.2.1 9 rfl
  have c4_1_10 := Mem.cell (v := .int .i64 (t.md + 1)) M4.2.1 10 rfl
  have c4_1_11 := Mem.cell (v := .int .i64 (t.rm - 1)) M4.2.1 11 rfl
  have c4_1_12 := Mem.cell (v := .int .i64 t.st) M4.2.1 12 rfl
  have c4_1_13 := Mem.cell (v := .string t.on) M4.2.1 13 rfl
  have c4_1_14 := Mem.cell (v := .int .i64 t.vk) M4.2.1 14 rfl
  have c4_1_15 := Mem.cell (v := .int .i64 t.vx) M4.2.1 15 rfl
  have c4_1_16 := Mem.cell (v := .string t.vm) M4.2.1 16 rfl
  have c4_1_17 := Mem.cell (v := .string t.vS) M4.2.1 17 rfl
  have c4_1_18 := Mem.cell (v := .string t.vI) M4.2.1 18 rfl
  have c4_1_19 := Mem.cell (v := .bool t.ex) M4.2.1 19 rfl
  have z4_1 := Mem.lt M4.2.1
  refine wp_region_lit ?_
  refine load_th rfl _ rfl (w.heap.size) rfl ({ t with md := (t.md + 1), rm := (t.rm - 1) }) M4.2.1 ?_
  go_step
  go_step
  go_step
  refine store_th rfl _ _ rfl (w.heap.size + 1) rfl (th0) ({ t with md := (t.md + 1), rm := (t.rm - 1) }) rfl M4.1 (one_th _) ?_
  intro w5 hW5
  have hB5 : Below w.heap.size w w5 := by rw [hW5]; exact below_setCells (B := w.heap.size) hB4 (b := w.heap.size + 1) (by have := hB4.size; omega) 0 _
  have M5 : Mem w5 [(w.heap.size + 1, .cells (th ({ t with md := (t.md + 1), rm := (t.rm - 1) })) 39), (w.heap.size, .cells (th ({ t with md := (t.md + 1), rm := (t.rm - 1) })) 39)] := by rw [hW5]; exact ⟨set_th M4.1 _, (setCells_other _ 0 _ _ (by omega)).trans M4.2.1, trivial⟩
  clear z4_0 c4_1_0 c4_1_1 c4_1_2 c4_1_3 c4_1_4 c4_1_5 c4_1_6 c4_1_7 c4_1_8 c4_1_9 c4_1_10 c4_1_11 c4_1_12 c4_1_13 c4_1_14 c4_1_15 c4_1_16 c4_1_17 c4_1_18 c4_1_19 z4_1
  clear hW5
  have c5_0_0 := Mem.cell (v := .string t.id) M5.1 0 rfl
  have c5_0_1 := Mem.cell (v := .string t.pa) M5.1 1 rfl
  have c5_0_2 := Mem.cell (v := .string t.cS) M5.1 2 rfl
  have c5_0_3 := Mem.cell (v := .string t.cI) M5.1 3 rfl
  have c5_0_4 := Mem.cell (v := .string t.kS) M5.1 4 rfl
  have c5_0_5 := Mem.cell (v := .string t.kI) M5.1 5 rfl
  have c5_0_6 := Mem.cell (v := .slice t.fr.a t.fr.n t.fr.c) M5.1 6 rfl
  have c5_0_7 := Mem.cell (v := .slice t.sk.a t.sk.n t.sk.c) M5.1 7 rfl
  have c5_0_8 := Mem.cell (v := .slice t.tr.a t.tr.n t.tr.c) M5.1 8 rfl
  have c5_0_9 := Mem.cell (v := .slice t.sc.a t.sc.n t.sc.c) M5.1 9 rfl
  have c5_0_10 := Mem.cell (v := .int .i64 (t.md + 1)) M5.1 10 rfl
  have c5_0_11 := Mem.cell (v := .int .i64 (t.rm - 1)) M5.1 11 rfl
  have c5_0_12 := Mem.cell (v := .int .i64 t.st) M5.1 12 rfl
  have c5_0_13 := Mem.cell (v := .string t.on) M5.1 13 rfl
  have c5_0_14 := Mem.cell (v := .int .i64 t.vk) M5.1 14 rfl
  have c5_0_15 := Mem.cell (v := .int .i64 t.vx) M5.1 15 rfl
  have c5_0_16 := Mem.cell (v := .string t.vm) M5.1 16 rfl
  have c5_0_17 := Mem.cell (v := .string t.vS) M5.1 17 rfl
  have c5_0_18 := Mem.cell (v := .string t.vI) M5.1 18 rfl
  have c5_0_19 := Mem.cell (v := .bool t.ex) M5.1 19 rfl
  have z5_0 := Mem.lt M5.1
  have c5_1_0 := Mem.cell (v := .string t.id) M5.2.1 0 rfl
  have c5_1_1 := Mem.cell (v := .string t.pa) M5.2.1 1 rfl
  have c5_1_2 := Mem.cell (v := .string t.cS) M5.2.1 2 rfl
  have c5_1_3 := Mem.cell (v := .string t.cI) M5.2.1 3 rfl
  have c5_1_4 := Mem.cell (v := .string t.kS) M5.2.1 4 rfl
  have c5_1_5 := Mem.cell (v := .string t.kI) M5.2.1 5 rfl
  have c5_1_6 := Mem.cell (v := .slice t.fr.a t.fr.n t.fr.c) M5.2.1 6 rfl
  have c5_1_7 := Mem.cell (v := .slice t.sk.a t.sk.n t.sk.c) M5.2.1 7 rfl
  have c5_1_8 := Mem.cell (v := .slice t.tr.a t.tr.n t.tr.c) M5.2.1 8 rfl
  have c5_1_9 := Mem.cell (v := .slice t.sc.a t.sc.n t.sc.c) M5.2.1 9 rfl
  have c5_1_10 := Mem.cell (v := .int .i64 (t.md + 1)) M5.2.1 10 rfl
  have c5_1_11 := Mem.cell (v := .int .i64 (t.rm - 1)) M5.2.1 11 rfl
  have c5_1_12 := Mem.cell (v := .int .i64 t.st) M5.2.1 12 rfl
  have c5_1_13 := Mem.cell (v := .string t.on) M5.2.1 13 rfl
  have c5_1_14 := Mem.cell (v := .int .i64 t.vk) M5.2.1 14 rfl
  have c5_1_15 := Mem.cell (v := .int .i64 t.vx) M5.2.1 15 rfl
  have c5_1_16 := Mem.cell (v := .string t.vm) M5.2.1 16 rfl
  have c5_1_17 := Mem.cell (v := .string t.vS) M5.2.1 17 rfl
  have c5_1_18 := Mem.cell (v := .string t.vI) M5.2.1 18 rfl
  have c5_1_19 := Mem.cell (v := .bool t.ex) M5.2.1 19 rfl
  have z5_1 := Mem.lt M5.2.1
  go_wp2_with fail
  refine bodyPost_ret (v := .tuple #[.agg (th { t with md := t.md + 1, rm := t.rm - 1 }), .string nw, .bool true]) (results_th3 Tryz.results19 _ _ (w.heap.size + 1) ({ t with md := (t.md + 1), rm := (t.rm - 1) }) rfl M5.1) rfl ⟨rfl, hB5⟩
end Go.Proofs.YtnmepcogijgbjaaGreatDoor
