/- thread.New, Finish. -/
import Derived.Test.YtnmepcogijgbjaaGreatDoorThA
namespace Go.Proofs.YtnmepcogijgbjaaGreatDoor
open Go.RowKit
def thNew (id cS cI kS kI : ByteArray) (f s r : Sl) (rm : Int) : Th := { th0 with id := id, pa := id, cS := cS, cI := cI, kS := kS, kI := kI, fr := f, sk := s, tr := r, rm := rm }
set_option maxRecDepth 100000 in
set_option maxHeartbeats 2000000 in
theorem new_any (id cS cI kS kI : ByteArray) (f s r : Sl) (rm : Int) (w : World) :
    Calls Tryz.prog 23 #[.string id, .agg #[.string cS, .string cI, .string kS, .string kI], .agg #[.slice f.a f.n f.c, .slice s.a s.n s.c, .slice r.a r.n r.c], .int .i64 rm] w fun e w' => e = .returned (.agg (th (thNew id cS cI kS kI f s r rm))) ∧ Below w.heap.size w w' := by
  go_enter Tryz.func23, Tryz.ntmps23
  have hB0 := Below.refl w.heap.size w
  have M0 := Mem.nil w
  go_upto_region 1 with (fail)
  refine wp_named ?_
  intro w1 hW1
  have hB1 : Below w.heap.size w w1 := by rw [hW1]; exact (below_al (below_al (below_al hB0 _) _) _)
  have M1 : Mem w1 [(w.heap.size + 1 + 1, .cells (th (th0)) 39), (w.heap.size + 1, .cells #[.slice f.a f.n f.c, .slice s.a s.n s.c, .slice r.a r.n r.c] 36), (w.heap.size, .cells #[.string cS, .string cI, .string kS, .string kI] 26)] := by rw [hW1]; exact (((M0).new' (w.heap.size) (by rfl) (.cells #[.string cS, .string cI, .string kS, .string kI] 26)).new' (w.heap.size + 1) (by simp) (.cells #[.slice f.a f.n f.c, .slice s.a s.n s.c, .slice r.a r.n r.c] 36)).new' (w.heap.size + 1 + 1) (by simp) (.cells (th (th0)) 39)
  clear hW1
  have z1_0 := Mem.lt M1.1
  have c1_1_0 := Mem.cell (v := .slice f.a f.n f.c) M1.2.1 0 rfl
  have c1_1_1 := Mem.cell (v := .slice s.a s.n s.c) M1.2.1 1 rfl
  have c1_1_2 := Mem.cell (v := .slice r.a r.n r.c) M1.2.1 2 rfl
  have z1_1 := Mem.lt M1.2.1
  have c1_2_0 := Mem.cell (v := .string cS) M1.2.2.1 0 rfl
  have c1_2_1 := Mem.cell (v := .string cI) M1.2.2.1 1 rfl
  have c1_2_2 := Mem.cell (v := .string kS) M1.2.2.1 2 rfl
  have c1_2_3 := Mem.cell (v := .string kI) M1.2.2.1 3 rfl
  have z1_2 := Mem.lt M1.2.2.1
  refine wp_region_lit ?_
  iterate 18 go_step
  refine store_th rfl _ _ rfl (w.heap.size + 1 + 1) rfl (th0) ((thNew id cS cI kS kI f s r rm)) rfl M1.1 (one_th _) ?_
  intro w2 hW2
  have hB2 : Below w.heap.size w w2 := by rw [hW2]; exact below_setCells (B := w.heap.size) hB1 (b := w.heap.size + 1 + 1) (by have := hB1.size; omega) 0 _
  have M2 : Mem w2 [(w.heap.size + 1 + 1, .cells (th ((thNew id cS cI kS kI f s r rm))) 39), (w.heap.size + 1, .cells #[.slice f.a f.n f.c, .slice s.a s.n s.c, .slice r.a r.n r.c] 36), (w.heap.size, .cells #[.string cS, .string cI, .string kS, .string kI] 26)] := by rw [hW2]; exact ⟨set_th M1.1 _, (setCells_other _ 0 _ _ (by omega)).trans M1.2.1, (setCells_other _ 0 _ _ (by omega)).trans M1.2.2.1, trivial⟩
  clear z1_0 c1_1_0 c1_1_1 c1_1_2 z1_1 c1_2_0 c1_2_1 c1_2_2 c1_2_3 z1_2
  clear hW2
  have c2_0_0 := Mem.cell (v := .string (thNew id cS cI kS kI f s r rm).id) M2.1 0 rfl
  have c2_0_1 := Mem.cell (v := .string (thNew id cS cI kS kI f s r rm).pa) M2.1 1 rfl
  have c2_0_2 := Mem.cell (v := .string (thNew id cS cI kS kI f s r rm).cS) M2.1 2 rfl
  have c2_0_3 := Mem.cell (v := .string (thNew id cS cI kS kI f s r rm).cI) M2.1 3 rfl
  have c2_0_4 := Mem.cell (v := .string (thNew id cS cI kS kI f s r rm).kS) M2.1 4 rfl
  have c2_0_5 := Mem.cell (v := .string (thNew id cS cI kS kI f s r rm).kI) M2.1 5 rfl
  have c2_0_6 := Mem.cell (v := .slice (thNew id cS cI kS kI f s r rm).fr.a (thNew id cS cI kS kI f s r rm).fr.n (thNew id cS cI kS kI f s r rm).fr.c) M2.1 6 rfl
  have c2_0_7 := Mem.cell (v := .slice (thNew id cS cI kS kI f s r rm).sk.a (thNew id cS cI kS kI f s r rm).sk.n (thNew id cS cI kS kI f s r rm).sk.c) M2.1 7 rfl
  have c2_0_8 := Mem.cell (v := .slice (thNew id cS cI kS kI f s r rm).tr.a (thNew id cS cI kS kI f s r rm).tr.n (thNew id cS cI kS kI f s r rm).tr.c) M2.1 8 rfl
  have c2_0_9 := Mem.cell (v := .slice (thNew id cS cI kS kI f s r rm).sc.a (thNew id cS cI kS kI f s r rm).sc.n (thNew id cS cI kS kI f s r rm).sc.c) M2.1 9 rfl
  have c2_0_10 := Mem.cell (v := .int .i64 (thNew id cS cI kS kI f s r rm).md) M2.1 10 rfl
  have c2_0_11 := Mem.cell (v := .int .i64 (thNew id cS cI kS kI f s r rm).rm) M2.1 11 rfl
  have c2_0_12 := Mem.cell (v := .int .i64 (thNew id cS cI kS kI f s r rm).st) M2.1 12 rfl
  have c2_0_13 := Mem.cell (v := .string (thNew id cS cI kS kI f s r rm).on) M2.1 13 rfl
  have c2_0_14 := Mem.cell (v := .int .i64 (thNew id cS cI kS kI f s r rm).vk) M2.1 14 rfl
  have c2_0_15 := Mem.cell (v := .int .i64 (thNew id cS cI kS kI f s r rm).vx) M2.1 15 rfl
  have c2_0_16 := Mem.cell (v := .string (thNew id cS cI kS kI f s r rm).vm) M2.1 16 rfl
  have c2_0_17 := Mem.cell (v := .string (thNew id cS cI kS kI f s r rm).vS) M2.1 17 rfl
  have c2_0_18 := Mem.cell (v := .string (thNew id cS cI kS kI f s r rm).vI) M2.1 18 rfl
  have c2_0_19 := Mem.cell (v := .bool (thNew id cS cI kS kI f s r rm).ex) M2.1 19 rfl
  have z2_0 := Mem.lt M2.1
  have c2_1_0 := Mem.cell (v := .slice f.a f.n f.c) M2.2.1 0 rfl
  have c2_1_1 := Mem.cell (v := .slice s.a s.n s.c) M2.2.1 1 rfl
  have c2_1_2 := Mem.cell (v := .slice r.a r.n r.c) M2.2.1 2 rfl
  have z2_1 := Mem.lt M2.2.1
  have c2_2_0 := Mem.cell (v := .string cS) M2.2.2.1 0 rfl
  have c2_2_1 := Mem.cell (v := .string cI) M2.2.2.1 1 rfl
  have c2_2_2 := Mem.cell (v := .string kS) M2.2.2.1 2 rfl
  have c2_2_3 := Mem.cell (v := .string kI) M2.2.2.1 3 rfl
  have z2_2 := Mem.lt M2.2.2.1
  go_wp2_with fail
  refine bodyPost_ret (v := .agg (th (thNew id cS cI kS kI f s r rm))) (results_th1 Tryz.results23 _ _ (w.heap.size + 1 + 1) ((thNew id cS cI kS kI f s r rm)) rfl M2.1) rfl ⟨rfl, hB2⟩
/-- what a thread is that came to its end -/
def thFin (t : Th) (vk vx : Int) (vm vS vI : ByteArray) (ex : Bool) : Th := { t with st := if 0 < t.sc.n then 2 else if ex then 4 else 3, vk := vk, vx := vx, vm := vm, vS := vS, vI := vI, ex := ex, on := ⟨#[]⟩ }
set_option maxRecDepth 100000 in
set_option maxHeartbeats 2000000 in
theorem finish_some (t : Th) (hsn : 0 < t.sc.n) (vk vx : Int) (vm vS vI : ByteArray) (ex : Bool) (w : World) :
    Calls Tryz.prog 24 #[.agg (th t), .agg #[.int .i64 vk, .int .i64 vx, .string vm, .string vS, .string vI], .bool ex] w fun e w' => e = .returned (.agg (th (thFin t vk vx vm vS vI ex))) ∧ Below w.heap.size w w' := by
  have hS1 : decide ((0 : Int) < (t.sc.n : Int)) = true := by simpa using hsn
  have eF : thFin t vk vx vm vS vI ex = { t with st := 2, vk := vk, vx := vx, vm := vm, vS := vS, vI := vI, ex := ex, on := ⟨#[]⟩ } := by unfold thFin; rw [if_pos hsn]
  rw [eF]
  go_enter Tryz.func24, Tryz.ntmps24
  have hB0 := Below.refl w.heap.size w
  have M0 := Mem.nil w
  go_upto_region 2 with (fail)
  refine wp_named ?_
  intro w1 hW1
  have hB1 : Below w.heap.size w w1 := by rw [hW1]; exact (below_al (below_al (below_al hB0 _) _) _)
  have M1 : Mem w1 [(w.heap.size + 1 + 1, .cells (th (th0)) 39), (w.heap.size + 1, .cells #[.int .i64 vk, .int .i64 vx, .string vm, .string vS, .string vI] 28), (w.heap.size, .cells (th (t)) 39)] := by rw [hW1]; exact (((M0).new' (w.heap.size) (by rfl) (.cells (th (t)) 39)).new' (w.heap.size + 1) (by simp) (.cells #[.int .i64 vk, .int .i64 vx, .string vm, .string vS, .string vI] 28)).new' (w.heap.size + 1 + 1) (by simp) (.cells (th (th0)) 39)
  clear hW1
  have z1_0 := Mem.lt M1.1
  have c1_1_0 := Mem.cell (v := .int .i64 vk) M1.2.1 0 rfl
  have c1_1_1 := Mem.cell (v := .int .i64 vx) M1.2.1 1 rfl
  have c1_1_2 := Mem.cell (v := .string vm) M1.2.1 2 rfl
  have c1_1_3 := Mem.cell (v := .string vS) M1.2.1 3 rfl
  have c1_1_4 := Mem.cell (v := .string vI) M1.2.1 4 rfl
  have z1_1 := Mem.lt M1.2.1
  have c1_2_0 := Mem.cell (v := .string t.id) M1.2.2.1 0 rfl
  have c1_2_1 := Mem.cell (v := .string t.pa) M1.2.2.1 1 rfl
  have c1_2_2 := Mem.cell (v := .string t.cS) M1.2.2.1 2 rfl
  have c1_2_3 := Mem.cell (v := .string t.cI) M1.2.2.1 3 rfl
  have c1_2_4 := Mem.cell (v := .string t.kS) M1.2.2.1 4 rfl
  have c1_2_5 := Mem.cell (v := .string t.kI) M1.2.2.1 5 rfl
  have c1_2_6 := Mem.cell (v := .slice t.fr.a t.fr.n t.fr.c) M1.2.2.1 6 rfl
  have c1_2_7 := Mem.cell (v := .slice t.sk.a t.sk.n t.sk.c) M1.2.2.1 7 rfl
  have c1_2_8 := Mem.cell (v := .slice t.tr.a t.tr.n t.tr.c) M1.2.2.1 8 rfl
  have c1_2_9 := Mem.cell (v := .slice t.sc.a t.sc.n t.sc.c) M1.2.2.1 9 rfl
  have c1_2_10 := Mem.cell (v := .int .i64 t.md) M1.2.2.1 10 rfl
  have c1_2_11 := Mem.cell (v := .int .i64 t.rm) M1.2.2.1 11 rfl
  have c1_2_12 := Mem.cell (v := .int .i64 t.st) M1.2.2.1 12 rfl
  have c1_2_13 := Mem.cell (v := .string t.on) M1.2.2.1 13 rfl
  have c1_2_14 := Mem.cell (v := .int .i64 t.vk) M1.2.2.1 14 rfl
  have c1_2_15 := Mem.cell (v := .int .i64 t.vx) M1.2.2.1 15 rfl
  have c1_2_16 := Mem.cell (v := .string t.vm) M1.2.2.1 16 rfl
  have c1_2_17 := Mem.cell (v := .string t.vS) M1.2.2.1 17 rfl
  have c1_2_18 := Mem.cell (v := .string t.vI) M1.2.2.1 18 rfl
  have c1_2_19 := Mem.cell (v := .bool t.ex) M1.2.2.1 19 rfl
  have z1_2 := Mem.lt M1.2.2.1
  have f1 := fun j => Mem.free M1.2.2.1 j
  go_upto_region 6 with (fail)
  have hX1 : (w1.setCells (w.heap.size) 12 [.int .i64 2]).heap[w.heap.size]? = some (.cells (th ({ t with st := 2 })) 39) := by rw [setCells_block [.int .i64 2] 12 _ _ (M1).2.2.1 (by simp)]; rfl
  have hY1 := below_setCells (B := w.heap.size) hB1 (b := w.heap.size) (by have := hB1.size; omega) 12 [.int .i64 2]
  refine wp_named ?_
  intro w2 hW2
  have hB2 : Below w.heap.size w w2 := by rw [hW2]; exact hY1
  have M2 : Mem w2 [(w.heap.size + 1 + 1, .cells (th (th0)) 39), (w.heap.size + 1, .cells #[.int .i64 vk, .int .i64 vx, .string vm, .string vS, .string vI] 28), (w.heap.size, .cells (th ({ t with st := 2 })) 39)] := by rw [hW2]; exact ⟨(setCells_other [.int .i64 2] 12 _ _ (by omega)).trans (M1).1, (setCells_other [.int .i64 2] 12 _ _ (by omega)).trans (M1).2.1, hX1, trivial⟩
  clear z1_0 c1_1_0 c1_1_1 c1_1_2 c1_1_3 c1_1_4 z1_1 c1_2_0 c1_2_1 c1_2_2 c1_2_3 c1_2_4 c1_2_5 c1_2_6 c1_2_7 c1_2_8 c1_2_9 c1_2_10 c1_2_11 c1_2_12 c1_2_13 c1_2_14 c1_2_15 c1_2_16 c1_2_17 c1_2_18 c1_2_19 z1_2
  clear hW2 hX1 hY1
  have z2_0 := Mem.lt M2.1
  have c2_1_0 := Mem.cell (v := .int .i64 vk) M2.2.1 0 rfl
  have c2_1_1 := Mem.cell (v := .int .i64 vx) M2.2.1 1 rfl
  have c2_1_2 := Mem.cell (v := .string vm) M2.2.1 2 rfl
  have c2_1_3 := Mem.cell (v := .string vS) M2.2.1 3 rfl
  have c2_1_4 := Mem.cell (v := .string vI) M2.2.1 4 rfl
  have z2_1 := Mem.lt M2.2.1
  have c2_2_0 := Mem.cell (v := .string t.id) M2.2.2.1 0 rfl
  have c2_2_1 := Mem.cell (v := .string t.pa) M2.2.2.1 1 rfl
  have c2_2_2 := Mem.cell (v := .string t.cS) M2.2.2.1 2 rfl
  have c2_2_3 := Mem.cell (v := .string t.cI) M2.2.2.1 3 rfl
  have c2_2_4 := Mem.cell (v := .string t.kS) M2.2.2.1 4 rfl
  have c2_2_5 := Mem.cell (v := .string t.kI) M2.2.2.1 5 rfl
  have c2_2_6 := Mem.cell (v := .slice t.fr.a t.fr.n t.fr.c) M2.2.2.1 6 rfl
  have c2_2_7 := Mem.cell (v := .slice t.sk.a t.sk.n t.sk.c) M2.2.2.1 7 rfl
  have c2_2_8 := Mem.cell (v := .slice t.tr.a t.tr.n t.tr.c) M2.2.2.1 8 rfl
  have c2_2_9 := Mem.cell (v := .slice t.sc.a t.sc.n t.sc.c) M2.2.2.1 9 rfl
  have c2_2_10 := Mem.cell (v := .int .i64 t.md) M2.2.2.1 10 rfl
  have c2_2_11 := Mem.cell (v := .int .i64 t.rm) M2.2.2.1 11 rfl
  have c2_2_12 := Mem.cell (v := .int .i64 2) M2.2.2.1 12 rfl
  have c2_2_13 := Mem.cell (v := .string t.on) M2.2.2.1 13 rfl
  have c2_2_14 := Mem.cell (v := .int .i64 t.vk) M2.2.2.1 14 rfl
  have c2_2_15 := Mem.cell (v := .int .i64 t.vx) M2.2.2.1 15 rfl
  have c2_2_16 := Mem.cell (v := .string t.vm) M2.2.2.1 16 rfl
  have c2_2_17 := Mem.cell (v := .string t.vS) M2.2.2.1 17 rfl
  have c2_2_18 := Mem.cell (v := .string t.vI) M2.2.2.1 18 rfl
  have c2_2_19 := Mem.cell (v := .bool t.ex) M2.2.2.1 19 rfl
  have z2_2 := Mem.lt M2.2.2.1
  have f2 := fun j => Mem.free M2.2.2.1 j
  go_upto_region 7 with (fail)
  have hX2_0 : (w2.setCells (w.heap.size) 14 [.int .i64 vk, .int .i64 vx, .string vm, .string vS, .string vI]).heap[w.heap.size]? = some (.cells (th ({ t with st := 2, vk := vk, vx := vx, vm := vm, vS := vS, vI := vI })) 39) := by rw [setCells_block [.int .i64 vk, .int .i64 vx, .string vm, .string vS, .string vI] 14 _ _ ((M2).2.2.1) (by simp)]; rfl
  have hY2_0 := below_setCells (B := w.heap.size) hB2 (b := w.heap.size) (by have := hB2.size; omega) 14 [.int .i64 vk, .int .i64 vx, .string vm, .string vS, .string vI]
  have hX2_1 : ((w2.setCells (w.heap.size) 14 [.int .i64 vk, .int .i64 vx, .string vm, .string vS, .string vI]).setCells (w.heap.size) 19 [.bool ex]).heap[w.heap.size]? = some (.cells (th ({ t with st := 2, vk := vk, vx := vx, vm := vm, vS := vS, vI := vI, ex := ex })) 39) := by rw [setCells_block [.bool ex] 19 _ _ (hX2_0) (by simp)]; rfl
  have hY2_1 := below_setCells (B := w.heap.size) hY2_0 (b := w.heap.size) (by have := hB2.size; omega) 19 [.bool ex]
  have hX2_2 : (((w2.setCells (w.heap.size) 14 [.int .i64 vk, .int .i64 vx, .string vm, .string vS, .string vI]).setCells (w.heap.size) 19 [.bool ex]).setCells (w.heap.size) 13 [.string ⟨#[]⟩]).heap[w.heap.size]? = some (.cells (th ({ t with st := 2, vk := vk, vx := vx, vm := vm, vS := vS, vI := vI, ex := ex, on := ⟨#[]⟩ })) 39) := by rw [setCells_block [.string ⟨#[]⟩] 13 _ _ (hX2_1) (by simp)]; rfl
  have hY2_2 := below_setCells (B := w.heap.size) hY2_1 (b := w.heap.size) (by have := hB2.size; omega) 13 [.string ⟨#[]⟩]
  refine wp_named ?_
  intro w3 hW3
  have hB3 : Below w.heap.size w w3 := by rw [hW3]; exact hY2_2
  have M3 : Mem w3 [(w.heap.size + 1 + 1, .cells (th (th0)) 39), (w.heap.size + 1, .cells #[.int .i64 vk, .int .i64 vx, .string vm, .string vS, .string vI] 28), (w.heap.size, .cells (th ({ t with st := 2, vk := vk, vx := vx, vm := vm, vS := vS, vI := vI, ex := ex, on := ⟨#[]⟩ })) 39)] := by rw [hW3]; exact ⟨(setCells_other [.string ⟨#[]⟩] 13 _ _ (by omega)).trans ((setCells_other [.bool ex] 19 _ _ (by omega)).trans ((setCells_other [.int .i64 vk, .int .i64 vx, .string vm, .string vS, .string vI] 14 _ _ (by omega)).trans ((M2).1))), (setCells_other [.string ⟨#[]⟩] 13 _ _ (by omega)).trans ((setCells_other [.bool ex] 19 _ _ (by omega)).trans ((setCells_other [.int .i64 vk, .int .i64 vx, .string vm, .string vS, .string vI] 14 _ _ (by omega)).trans ((M2).2.1))), hX2_2, trivial⟩
  clear z2_0 c2_1_0 c2_1_1 c2_1_2 c2_1_3 c2_1_4 z2_1 c2_2_0 c2_2_1 c2_2_2 c2_2_3 c2_2_4 c2_2_5 c2_2_6 c2_2_7 c2_2_8 c2_2_9 c2_2_10 c2_2_11 c2_2_12 c2_2_13 c2_2_14 c2_2_15 c2_2_16 c2_2_17 c2_2_18 c2_2_19 z2_2
  clear hW3 hX2_0 hY2_0 hX2_1 hY2_1 hX2_2 hY2_2
  have z3_0 := Mem.lt M3.1
  have c3_1_0 := Mem.cell (v := .int .i64 vk) M3.2.1 0 rfl
  have c3_1_1 := Mem.cell (v := .int .i64 vx) M3.2.1 1 rfl
  have c3_1_2 := Mem.cell (v := .string vm) M3.2.1 2 rfl
  have c3_1_3 := Mem.cell (v := .string vS) M3.2.1 3 rfl
  have c3_1_4 := Mem.cell (v := .string vI) M3.2.1 4 rfl
  have z3_1 := Mem.lt M3.2.1
  have c3_2_0 := Mem.cell (v := .string t.id) M3.2.2.1 0 rfl
  have c3_2_1 := Mem.cell (v := .string t.pa) M3.2.2.1 1 rfl
  have c3_2_2 := Mem.cell (v := .string t.cS) M3.2.2.1 2 rfl
  have c3_2_3 := Mem.cell (v := .string t.cI) M3.2.2.1 3 rfl
  have c3_2_4 := Mem.cell (v := .string t.kS) M3.2.2.1 4 rfl
  have c3_2_5 := Mem.cell (v := .string t.kI) M3.2.2.1 5 rfl
  have c3_2_6 := Mem.cell (v := .slice t.fr.a t.fr.n t.fr.c) M3.2.2.1 6 rfl
  have c3_2_7 := Mem.cell (v := .slice t.sk.a t.sk.n t.sk.c) M3.2.2.1 7 rfl
  have c3_2_8 := Mem.cell (v := .slice t.tr.a t.tr.n t.tr.c) M3.2.2.1 8 rfl
  have c3_2_9 := Mem.cell (v := .slice t.sc.a t.sc.n t.sc.c) M3.2.2.1 9 rfl
  have c3_2_10 := Mem.cell (v := .int .i64 t.md) M3.2.2.1 10 rfl
  have c3_2_11 := Mem.cell (v := .int .i64 t.rm) M3.2.2.1 11 rfl
  have c3_2_12 := Mem.cell (v := .int .i64 2) M3.2.2.1 12 rfl
  have c3_2_13 := Mem.cell (v := .string ⟨#[]⟩) M3.2.2.1 13 rfl
  have c3_2_14 := Mem.cell (v := .int .i64 vk) M3.2.2.1 14 rfl
  have c3_2_15 := Mem.cell (v := .int .i64 vx) M3.2.2.1 15 rfl
  have c3_2_16 := Mem.cell (v := .string vm) M3.2.2.1 16 rfl
  have c3_2_17 := Mem.cell (v := .string vS) M3.2.2.1 17 rfl
  have c3_2_18 := Mem.cell (v := .string vI) M3.2.2.1 18 rfl
  have c3_2_19 := Mem.cell (v := .bool ex) M3.2.2.1 19 rfl
  have z3_2 := Mem.lt M3.2.2.1
  refine wp_region_lit ?_
  refine load_th rfl _ rfl (w.heap.size) rfl ({ t with st := 2, vk := vk, vx := vx, vm := vm, vS := vS, vI := vI, ex := ex, on := ⟨#[]⟩ }) M3.2.2.1 ?_
  refine store_th rfl _ _ rfl (w.heap.size + 1 + 1) rfl (th0) ({ t with st := 2, vk := vk, vx := vx, vm := vm, vS := vS, vI := vI, ex := ex, on := ⟨#[]⟩ }) rfl M3.1 (one_th _) ?_
  intro w4 hW4
  have hB4 : Below w.heap.size w w4 := by rw [hW4]; exact below_setCells (B := w.heap.size) hB3 (b := w.heap.size + 1 + 1) (by have := hB3.size; omega) 0 _
  have M4 : Mem w4 [(w.heap.size + 1 + 1, .cells (th ({ t with st := 2, vk := vk, vx := vx, vm := vm, vS := vS, vI := vI, ex := ex, on := ⟨#[]⟩ })) 39), (w.heap.size + 1, .cells #[.int .i64 vk, .int .i64 vx, .string vm, .string vS, .string vI] 28), (w.heap.size, .cells (th ({ t with st := 2, vk := vk, vx := vx, vm := vm, vS := vS, vI := vI, ex := ex, on := ⟨#[]⟩ })) 39)] := by rw [hW4]; exact ⟨set_th M3.1 _, (setCells_other _ 0 _ _ (by omega)).trans M3.2.1, (setCells_other _ 0 _ _ (by omega)).trans M3.2.2.1, trivial⟩
  clear z3_0 c3_1_0 c3_1_1 c3_1_2 c3_1_3 c3_1_4 z3_1 c3_2_0 c3_2_1 c3_2_2 c3_2_3 c3_2_4 c3_2_5 c3_2_6 c3_2_7 c3_2_8 c3_2_9 c3_2_10 c3_2_11 c3_2_12 c3_2_13 c3_2_14 c3_2_15 c3_2_16 c3_2_17 c3_2_18 c3_2_19 z3_2
  clear hW4
  have c4_0_0 := Mem.cell (v := .string t.id) M4.1 0 rfl
  have c4_0_1 := Mem.cell (v := .string t.pa) M4.1 1 rfl
  have c4_0_2 := Mem.cell (v := .string t.cS) M4.1 2 rfl
  have c4_0_3 := Mem.cell (v := .string t.cI) M4.1 3 rfl
  have c4_0_4 := Mem.cell (v := .string t.kS) M4.1 4 rfl
  have c4_0_5 := Mem.cell (v := .string t.kI) M4.1 5 rfl
  have c4_0_6 := Mem.cell (v := .slice t.fr.a t.fr.n t.fr.c) M4.1 6 rfl
  have c4_0_7 := Mem.cell (v := .slice t.sk.a t.sk.n t.sk.c) M4.1 7 rfl
  have c4_0_8 := Mem.cell (v := .slice t.tr.a t.tr.n t.tr.c) M4.1 8 rfl
  have c4_0_9 := Mem.cell (v := .slice t.sc.a t.sc.n t.sc.c) M4.1 9 rfl
  have c4_0_10 := Mem.cell (v := .int .i64 t.md) M4.1 10 rfl
  have c4_0_11 := Mem.cell (v := .int .i64 t.rm) M4.1 11 rfl
  have c4_0_12 := Mem.cell (v := .int .i64 2) M4.1 12 rfl
  have c4_0_13 := Mem.cell (v := .string ⟨#[]⟩) M4.1 13 rfl
  have c4_0_14 := Mem.cell (v := .int .i64 vk) M4.1 14 rfl
  have c4_0_15 := Mem.cell (v := .int .i64 vx) M4.1 15 rfl
  have c4_0_16 := Mem.cell (v := .string vm) M4.1 16 rfl
  have c4_0_17 := Mem.cell (v := .string vS) M4.1 17 rfl
  have c4_0_18 := Mem.cell (v := .string vI) M4.1 18 rfl
  have c4_0_19 := Mem.cell (v := .bool ex) M4.1 19 rfl
  have z4_0 := Mem.lt M4.1
  have c4_1_0 := Mem.cell (v := .int .i64 vk) M4.2.1 0 rfl
  have c4_1_1 := Mem.cell (v := .int .i64 vx) M4.2.1 1 rfl
  have c4_1_2 := Mem.cell (v := .string vm) M4.2.1 2 rfl
  have c4_1_3 := Mem.cell (v := .string vS) M4.2.1 3 rfl
  have c4_1_4 := Mem.cell (v := .string vI) M4.2.1 4 rfl
  have z4_1 := Mem.lt M4.2.1
  have c4_2_0 := Mem.cell (v := .string t.id) M4.2.2.1 0 rfl
  have c4_2_1 := Mem.cell (v := .string t.pa) M4.2.2.1 1 rfl
  have c4_2_2 := Mem.cell (v := .string t.cS) M4.2.2.1 2 rfl
  have c4_2_3 := Mem.cell (v := .string t.cI) M4.2.2.1 3 rfl
  have c4_2_4 := Mem.cell (v := .string t.kS) M4.2.2.1 4 rfl
  have c4_2_5 := Mem.cell (v := .string t.kI) M4.2.2.1 5 rfl
  have c4_2_6 := Mem.cell (v := .slice t.fr.a t.fr.n t.fr.c) M4.2.2.1 6 rfl
  have c4_2_7 := Mem.cell (v := .slice t.sk.a t.sk.n t.sk.c) M4.2.2.1 7 rfl
  have c4_2_8 := Mem.cell (v := .slice t.tr.a t.tr.n t.tr.c) M4.2.2.1 8 rfl
  have c4_2_9 := Mem.cell (v := .slice t.sc.a t.sc.n t.sc.c) M4.2.2.1 9 rfl
  have c4_2_10 := Mem.cell (v := .int .i64 t.md) M4.2.2.1 10 rfl
  have c4_2_11 := Mem.cell (v := .int .i64 t.rm) M4.2.2.1 11 rfl
  have c4_2_12 := Mem.cell (v := .int .i64 2) M4.2.2.1 12 rfl
  have c4_2_13 := Mem.cell (v := .string ⟨#[]⟩) M4.2.2.1 13 rfl
  have c4_2_14 := Mem.cell (v := .int .i64 vk) M4.2.2.1 14 rfl
  have c4_2_15 := Mem.cell (v := .int .i64 vx) M4.2.2.1 15 rfl
  have c4_2_16 := Mem.cell (v := .string vm) M4.2.2.1 16 rfl
  have c4_2_17 := Mem.cell (v := .string vS) M4.2.2.1 17 rfl
  have c4_2_18 := Mem.cell (v := .string vI) M4.2.2.1 18 rfl
  have c4_2_19 := Mem.cell (v := .bool ex) M4.2.2.1 19 rfl
  have z4_2 := Mem.lt M4.2.2.1
  go_wp2_with fail
  refine bodyPost_ret (v := .agg (th ({ t with st := 2, vk := vk, vx := vx, vm := vm, vS := vS, vI := vI, ex := ex, on := ⟨#[]⟩ }))) (results_th1 Tryz.results24 _ _ (w.heap.size + 1 + 1) ({ t with st := 2, vk := vk, vx := vx, vm := vm, vS := vS, vI := vI, ex := ex, on := ⟨#[]⟩ }) rfl M4.1) rfl ⟨rfl, hB4⟩
set_option maxRecDepth 100000 in
set_option maxHeartbeats 2000000 in
theorem finish_failed (t : Th) (hsn : t.sc.n = 0) (vk vx : Int) (vm vS vI : ByteArray) (w : World) :
    Calls Tryz.prog 24 #[.agg (th t), .agg #[.int .i64 vk, .int .i64 vx, .string vm, .string vS, .string vI], .bool true] w fun e w' => e = .returned (.agg (th (thFin t vk vx vm vS vI true))) ∧ Below w.heap.size w w' := by
  have hS1 : decide ((0 : Int) < (t.sc.n : Int)) = false := by simp [hsn]
  have eF : thFin t vk vx vm vS vI true = { t with st := if true then 4 else 3, vk := vk, vx := vx, vm := vm, vS := vS, vI := vI, ex := true, on := ⟨#[]⟩ } := by unfold thFin; rw [if_neg (by omega)]
  have hs0 : (t.sc.n : Int) = 0 := by omega
  rw [eF]
  go_enter Tryz.func24, Tryz.ntmps24
  have hB0 := Below.refl w.heap.size w
  have M0 := Mem.nil w
  go_upto_region 2 with (fail)
  refine wp_named ?_
  intro w1 hW1
  have hB1 : Below w.heap.size w w1 := by rw [hW1]; exact (below_al (below_al (below_al hB0 _) _) _)
  have M1 : Mem w1 [(w.heap.size + 1 + 1, .cells (th (th0)) 39), (w.heap.size + 1, .cells #[.int .i64 vk, .int .i64 vx, .string vm, .string vS, .string vI] 28), (w.heap.size, .cells (th (t)) 39)] := by rw [hW1]; exact (((M0).new' (w.heap.size) (by rfl) (.cells (th (t)) 39)).new' (w.heap.size + 1) (by simp) (.cells #[.int .i64 vk, .int .i64 vx, .string vm, .string vS, .string vI] 28)).new' (w.heap.size + 1 + 1) (by simp) (.cells (th (th0)) 39)
  clear hW1
  have z1_0 := Mem.lt M1.1
  have c1_1_0 := Mem.cell (v := .int .i64 vk) M1.2.1 0 rfl
  have c1_1_1 := Mem.cell (v := .int .i64 vx) M1.2.1 1 rfl
  have c1_1_2 := Mem.cell (v := .string vm) M1.2.1 2 rfl
  have c1_1_3 := Mem.cell (v := .string vS) M1.2.1 3 rfl
  have c1_1_4 := Mem.cell (v := .string vI) M1.2.1 4 rfl
  have z1_1 := Mem.lt M1.2.1
  have c1_2_0 := Mem.cell (v := .string t.id) M1.2.2.1 0 rfl
  have c1_2_1 := Mem.cell (v := .string t.pa) M1.2.2.1 1 rfl
  have c1_2_2 := Mem.cell (v := .string t.cS) M1.2.2.1 2 rfl
  have c1_2_3 := Mem.cell (v := .string t.cI) M1.2.2.1 3 rfl
  have c1_2_4 := Mem.cell (v := .string t.kS) M1.2.2.1 4 rfl
  have c1_2_5 := Mem.cell (v := .string t.kI) M1.2.2.1 5 rfl
  have c1_2_6 := Mem.cell (v := .slice t.fr.a t.fr.n t.fr.c) M1.2.2.1 6 rfl
  have c1_2_7 := Mem.cell (v := .slice t.sk.a t.sk.n t.sk.c) M1.2.2.1 7 rfl
  have c1_2_8 := Mem.cell (v := .slice t.tr.a t.tr.n t.tr.c) M1.2.2.1 8 rfl
  have c1_2_9 := Mem.cell (v := .slice t.sc.a t.sc.n t.sc.c) M1.2.2.1 9 rfl
  have c1_2_10 := Mem.cell (v := .int .i64 t.md) M1.2.2.1 10 rfl
  have c1_2_11 := Mem.cell (v := .int .i64 t.rm) M1.2.2.1 11 rfl
  have c1_2_12 := Mem.cell (v := .int .i64 t.st) M1.2.2.1 12 rfl
  have c1_2_13 := Mem.cell (v := .string t.on) M1.2.2.1 13 rfl
  have c1_2_14 := Mem.cell (v := .int .i64 t.vk) M1.2.2.1 14 rfl
  have c1_2_15 := Mem.cell (v := .int .i64 t.vx) M1.2.2.1 15 rfl
  have c1_2_16 := Mem.cell (v := .string t.vm) M1.2.2.1 16 rfl
  have c1_2_17 := Mem.cell (v := .string t.vS) M1.2.2.1 17 rfl
  have c1_2_18 := Mem.cell (v := .string t.vI) M1.2.2.1 18 rfl
  have c1_2_19 := Mem.cell (v := .bool t.ex) M1.2.2.1 19 rfl
  have z1_2 := Mem.lt M1.2.2.1
  have f1 := fun j => Mem.free M1.2.2.1 j
  go_upto_region 6 with (fail)
  have hX1 : (w1.setCells (w.heap.size) 12 [.int .i64 4]).heap[w.heap.size]? = some (.cells (th ({ t with st := 4 })) 39) := by rw [setCells_block [.int .i64 4] 12 _ _ (M1).2.2.1 (by simp)]; rfl
  have hY1 := below_setCells (B := w.heap.size) hB1 (b := w.heap.size) (by have := hB1.size; omega) 12 [.int .i64 4]
  refine wp_named ?_
  intro w2 hW2
  have hB2 : Below w.heap.size w w2 := by rw [hW2]; exact hY1
  have M2 : Mem w2 [(w.heap.size + 1 + 1, .cells (th (th0)) 39), (w.heap.size + 1, .cells #[.int .i64 vk, .int .i64 vx, .string vm, .string vS, .string vI] 28), (w.heap.size, .cells (th ({ t with st := 4 })) 39)] := by rw [hW2]; exact ⟨(setCells_other [.int .i64 4] 12 _ _ (by omega)).trans (M1).1, (setCells_other [.int .i64 4] 12 _ _ (by omega)).trans (M1).2.1, hX1, trivial⟩
  clear z1_0 c1_1_0 c1_1_1 c1_1_2 c1_1_3 c1_1_4 z1_1 c1_2_0 c1_2_1 c1_2_2 c1_2_3 c1_2_4 c1_2_5 c1_2_6 c1_2_7 c1_2_8 c1_2_9 c1_2_10 c1_2_11 c1_2_12 c1_2_13 c1_2_14 c1_2_15 c1_2_16 c1_2_17 c1_2_18 c1_2_19 z1_2
  clear hW2 hX1 hY1
  have z2_0 := Mem.lt M2.1
  have c2_1_0 := Mem.cell (v := .int .i64 vk) M2.2.1 0 rfl
  have c2_1_1 := Mem.cell (v := .int .i64 vx) M2.2.1 1 rfl
  have c2_1_2 := Mem.cell (v := .string vm) M2.2.1 2 rfl
  have c2_1_3 := Mem.cell (v := .string vS) M2.2.1 3 rfl
  have c2_1_4 := Mem.cell (v := .string vI) M2.2.1 4 rfl
  have z2_1 := Mem.lt M2.2.1
  have c2_2_0 := Mem.cell (v := .string t.id) M2.2.2.1 0 rfl
  have c2_2_1 := Mem.cell (v := .string t.pa) M2.2.2.1 1 rfl
  have c2_2_2 := Mem.cell (v := .string t.cS) M2.2.2.1 2 rfl
  have c2_2_3 := Mem.cell (v := .string t.cI) M2.2.2.1 3 rfl
  have c2_2_4 := Mem.cell (v := .string t.kS) M2.2.2.1 4 rfl
  have c2_2_5 := Mem.cell (v := .string t.kI) M2.2.2.1 5 rfl
  have c2_2_6 := Mem.cell (v := .slice t.fr.a t.fr.n t.fr.c) M2.2.2.1 6 rfl
  have c2_2_7 := Mem.cell (v := .slice t.sk.a t.sk.n t.sk.c) M2.2.2.1 7 rfl
  have c2_2_8 := Mem.cell (v := .slice t.tr.a t.tr.n t.tr.c) M2.2.2.1 8 rfl
  have c2_2_9 := Mem.cell (v := .slice t.sc.a t.sc.n t.sc.c) M2.2.2.1 9 rfl
  have c2_2_10 := Mem.cell (v := .int .i64 t.md) M2.2.2.1 10 rfl
  have c2_2_11 := Mem.cell (v := .int .i64 t.rm) M2.2.2.1 11 rfl
  have c2_2_12 := Mem.cell (v := .int .i64 4) M2.2.2.1 12 rfl
  have c2_2_13 := Mem.cell (v := .string t.on) M2.2.2.1 13 rfl
  have c2_2_14 := Mem.cell (v := .int .i64 t.vk) M2.2.2.1 14 rfl
  have c2_2_15 := Mem.cell (v := .int .i64 t.vx) M2.2.2.1 15 rfl
  have c2_2_16 := Mem.cell (v := .string t.vm) M2.2.2.1 16 rfl
  have c2_2_17 := Mem.cell (v := .string t.vS) M2.2.2.1 17 rfl
  have c2_2_18 := Mem.cell (v := .string t.vI) M2.2.2.1 18 rfl
  have c2_2_19 := Mem.cell (v := .bool t.ex) M2.2.2.1 19 rfl
  have z2_2 := Mem.lt M2.2.2.1
  have f2 := fun j => Mem.free M2.2.2.1 j
  go_upto_region 7 with (fail)
  have hX2_0 : (w2.setCells (w.heap.size) 14 [.int .i64 vk, .int .i64 vx, .string vm, .string vS, .string vI]).heap[w.heap.size]? = some (.cells (th ({ t with st := 4, vk := vk, vx := vx, vm := vm, vS := vS, vI := vI })) 39) := by rw [setCells_block [.int .i64 vk, .int .i64 vx, .string vm, .string vS, .string vI] 14 _ _ ((M2).2.2.1) (by simp)]; rfl
  have hY2_0 := below_setCells (B := w.heap.size) hB2 (b := w.heap.size) (by have := hB2.size; omega) 14 [.int .i64 vk, .int .i64 vx, .string vm, .string vS, .string vI]
  have hX2_1 : ((w2.setCells (w.heap.size) 14 [.int .i64 vk, .int .i64 vx, .string vm, .string vS, .string vI]).setCells (w.heap.size) 19 [.bool true]).heap[w.heap.size]? = some (.cells (th ({ t with st := 4, vk := vk, vx := vx, vm := vm, vS := vS, vI := vI, ex := true })) 39) := by rw [setCells_block [.bool true] 19 _ _ (hX2_0) (by simp)]; rfl
  have hY2_1 := below_setCells (B := w.heap.size) hY2_0 (b := w.heap.size) (by have := hB2.size; omega) 19 [.bool true]
  have hX2_2 : (((w2.setCells (w.heap.size) 14 [.int .i64 vk, .int .i64 vx, .string vm, .string vS, .string vI]).setCells (w.heap.size) 19 [.bool true]).setCells (w.heap.size) 13 [.string ⟨#[]⟩]).heap[w.heap.size]? = some (.cells (th ({ t with st := 4, vk := vk, vx := vx, vm := vm, vS := vS, vI := vI, ex := true, on := ⟨#[]⟩ })) 39) := by rw [setCells_block [.string ⟨#[]⟩] 13 _ _ (hX2_1) (by simp)]; rfl
  have hY2_2 := below_setCells (B := w.heap.size) hY2_1 (b := w.heap.size) (by have := hB2.size; omega) 13 [.string ⟨#[]⟩]
  refine wp_named ?_
  intro w3 hW3
  have hB3 : Below w.heap.size w w3 := by rw [hW3]; exact hY2_2
  have M3 : Mem w3 [(w.heap.size + 1 + 1, .cells (th (th0)) 39), (w.heap.size + 1, .cells #[.int .i64 vk, .int .i64 vx, .string vm, .string vS, .string vI] 28), (w.heap.size, .cells (th ({ t with st := 4, vk := vk, vx := vx, vm := vm, vS := vS, vI := vI, ex := true, on := ⟨#[]⟩ })) 39)] := by rw [hW3]; exact ⟨(setCells_other [.string ⟨#[]⟩] 13 _ _ (by omega)).trans ((setCells_other [.bool true] 19 _ _ (by omega)).trans ((setCells_other [.int .i64 vk, .int .i64 vx, .string vm, .string vS, .string vI] 14 _ _ (by omega)).trans ((M2).1))), (setCells_other [.string ⟨#[]⟩] 13 _ _ (by omega)).trans ((setCells_other [.bool true] 19 _ _ (by omega)).trans ((setCells_other [.int .i64 vk, .int .i64 vx, .string vm, .string vS, .string vI] 14 _ _ (by omega)).trans ((M2).2.1))), hX2_2, trivial⟩
  clear z2_0 c2_1_0 c2_1_1 c2_1_2 c2_1_3 c2_1_4 z2_1 c2_2_0 c2_2_1 c2_2_2 c2_2_3 c2_2_4 c2_2_5 c2_2_6 c2_2_7 c2_2_8 c2_2_9 c2_2_10 c2_2_11 c2_2_12 c2_2_13 c2_2_14 c2_2_15 c2_2_16 c2_2_17 c2_2_18 c2_2_19 z2_2
  clear hW3 hX2_0 hY2_0 hX2_1 hY2_1 hX2_2 hY2_2
  have z3_0 := Mem.lt M3.1
  have c3_1_0 := Mem.cell (v := .int .i64 vk) M3.2.1 0 rfl
  have c3_1_1 := Mem.cell (v := .int .i64 vx) M3.2.1 1 rfl
  have c3_1_2 := Mem.cell (v := .string vm) M3.2.1 2 rfl
  have c3_1_3 := Mem.cell (v := .string vS) M3.2.1 3 rfl
  have c3_1_4 := Mem.cell (v := .string vI) M3.2.1 4 rfl
  have z3_1 := Mem.lt M3.2.1
  have c3_2_0 := Mem.cell (v := .string t.id) M3.2.2.1 0 rfl
  have c3_2_1 := Mem.cell (v := .string t.pa) M3.2.2.1 1 rfl
  have c3_2_2 := Mem.cell (v := .string t.cS) M3.2.2.1 2 rfl
  have c3_2_3 := Mem.cell (v := .string t.cI) M3.2.2.1 3 rfl
  have c3_2_4 := Mem.cell (v := .string t.kS) M3.2.2.1 4 rfl
  have c3_2_5 := Mem.cell (v := .string t.kI) M3.2.2.1 5 rfl
  have c3_2_6 := Mem.cell (v := .slice t.fr.a t.fr.n t.fr.c) M3.2.2.1 6 rfl
  have c3_2_7 := Mem.cell (v := .slice t.sk.a t.sk.n t.sk.c) M3.2.2.1 7 rfl
  have c3_2_8 := Mem.cell (v := .slice t.tr.a t.tr.n t.tr.c) M3.2.2.1 8 rfl
  have c3_2_9 := Mem.cell (v := .slice t.sc.a t.sc.n t.sc.c) M3.2.2.1 9 rfl
  have c3_2_10 := Mem.cell (v := .int .i64 t.md) M3.2.2.1 10 rfl
  have c3_2_11 := Mem.cell (v := .int .i64 t.rm) M3.2.2.1 11 rfl
  have c3_2_12 := Mem.cell (v := .int .i64 4) M3.2.2.1 12 rfl
  have c3_2_13 := Mem.cell (v := .string ⟨#[]⟩) M3.2.2.1 13 rfl
  have c3_2_14 := Mem.cell (v := .int .i64 vk) M3.2.2.1 14 rfl
  have c3_2_15 := Mem.cell (v := .int .i64 vx) M3.2.2.1 15 rfl
  have c3_2_16 := Mem.cell (v := .string vm) M3.2.2.1 16 rfl
  have c3_2_17 := Mem.cell (v := .string vS) M3.2.2.1 17 rfl
  have c3_2_18 := Mem.cell (v := .string vI) M3.2.2.1 18 rfl
  have c3_2_19 := Mem.cell (v := .bool true) M3.2.2.1 19 rfl
  have z3_2 := Mem.lt M3.2.2.1
  refine wp_region_lit ?_
  refine load_th rfl _ rfl (w.heap.size) rfl ({ t with st := 4, vk := vk, vx := vx, vm := vm, vS := vS, vI := vI, ex := true, on := ⟨#[]⟩ }) M3.2.2.1 ?_
  refine store_th rfl _ _ rfl (w.heap.size + 1 + 1) rfl (th0) ({ t with st := 4, vk := vk, vx := vx, vm := vm, vS := vS, vI := vI, ex := true, on := ⟨#[]⟩ }) rfl M3.1 (one_th _) ?_
  intro w4 hW4
  have hB4 : Below w.heap.size w w4 := by rw [hW4]; exact below_setCells (B := w.heap.size) hB3 (b := w.heap.size + 1 + 1) (by have := hB3.size; omega) 0 _
  have M4 : Mem w4 [(w.heap.size + 1 + 1, .cells (th ({ t with st := 4, vk := vk, vx := vx, vm := vm, vS := vS, vI := vI, ex := true, on := ⟨#[]⟩ })) 39), (w.heap.size + 1, .cells #[.int .i64 vk, .int .i64 vx, .string vm, .string vS, .string vI] 28), (w.heap.size, .cells (th ({ t with st := 4, vk := vk, vx := vx, vm := vm, vS := vS, vI := vI, ex := true, on := ⟨#[]⟩ })) 39)] := by rw [hW4]; exact ⟨set_th M3.1 _, (setCells_other _ 0 _ _ (by omega)).trans M3.2.1, (setCells_other _ 0 _ _ (by omega)).trans M3.2.2.1, trivial⟩
  clear z3_0 c3_1_0 c3_1_1 c3_1_2 c3_1_3 c3_1_4 z3_1 c3_2_0 c3_2_1 c3_2_2 c3_2_3 c3_2_4 c3_2_5 c3_2_6 c3_2_7 c3_2_8 c3_2_9 c3_2_10 c3_2_11 c3_2_12 c3_2_13 c3_2_14 c3_2_15 c3_2_16 c3_2_17 c3_2_18 c3_2_19 z3_2
  clear hW4
  have c4_0_0 := Mem.cell (v := .string t.id) M4.1 0 rfl
  have c4_0_1 := Mem.cell (v := .string t.pa) M4.1 1 rfl
  have c4_0_2 := Mem.cell (v := .string t.cS) M4.1 2 rfl
  have c4_0_3 := Mem.cell (v := .string t.cI) M4.1 3 rfl
  have c4_0_4 := Mem.cell (v := .string t.kS) M4.1 4 rfl
  have c4_0_5 := Mem.cell (v := .string t.kI) M4.1 5 rfl
  have c4_0_6 := Mem.cell (v := .slice t.fr.a t.fr.n t.fr.c) M4.1 6 rfl
  have c4_0_7 := Mem.cell (v := .slice t.sk.a t.sk.n t.sk.c) M4.1 7 rfl
  have c4_0_8 := Mem.cell (v := .slice t.tr.a t.tr.n t.tr.c) M4.1 8 rfl
  have c4_0_9 := Mem.cell (v := .slice t.sc.a t.sc.n t.sc.c) M4.1 9 rfl
  have c4_0_10 := Mem.cell (v := .int .i64 t.md) M4.1 10 rfl
  have c4_0_11 := Mem.cell (v := .int .i64 t.rm) M4.1 11 rfl
  have c4_0_12 := Mem.cell (v := .int .i64 4) M4.1 12 rfl
  have c4_0_13 := Mem.cell (v := .string ⟨#[]⟩) M4.1 13 rfl
  have c4_0_14 := Mem.cell (v := .int .i64 vk) M4.1 14 rfl
  have c4_0_15 := Mem.cell (v := .int .i64 vx) M4.1 15 rfl
  have c4_0_16 := Mem.cell (v := .string vm) M4.1 16 rfl
  have c4_0_17 := Mem.cell (v := .string vS) M4.1 17 rfl
  have c4_0_18 := Mem.cell (v := .string vI) M4.1 18 rfl
  have c4_0_19 := Mem.cell (v := .bool true) M4.1 19 rfl
  have z4_0 := Mem.lt M4.1
  have c4_1_0 := Mem.cell (v := .int .i64 vk) M4.2.1 0 rfl
  have c4_1_1 := Mem.cell (v := .int .i64 vx) M4.2.1 1 rfl
  have c4_1_2 := Mem.cell (v := .string vm) M4.2.1 2 rfl
  have c4_1_3 := Mem.cell (v := .string vS) M4.2.1 3 rfl
  have c4_1_4 := Mem.cell (v := .string vI) M4.2.1 4 rfl
  have z4_1 := Mem.lt M4.2.1
  have c4_2_0 := Mem.cell (v := .string t.id) M4.2.2.1 0 rfl
  have c4_2_1 := Mem.cell (v := .string t.pa) M4.2.2.1 1 rfl
  have c4_2_2 := Mem.cell (v := .string t.cS) M4.2.2.1 2 rfl
  have c4_2_3 := Mem.cell (v := .string t.cI) M4.2.2.1 3 rfl
  have c4_2_4 := Mem.cell (v := .string t.kS) M4.2.2.1 4 rfl
  have c4_2_5 := Mem.cell (v := .string t.kI) M4.2.2.1 5 rfl
  have c4_2_6 := Mem.cell (v := .slice t.fr.a t.fr.n t.fr.c) M4.2.2.1 6 rfl
  have c4_2_7 := Mem.cell (v := .slice t.sk.a t.sk.n t.sk.c) M4.2.2.1 7 rfl
  have c4_2_8 := Mem.cell (v := .slice t.tr.a t.tr.n t.tr.c) M4.2.2.1 8 rfl
  have c4_2_9 := Mem.cell (v := .slice t.sc.a t.sc.n t.sc.c) M4.2.2.1 9 rfl
  have c4_2_10 := Mem.cell (v := .int .i64 t.md) M4.2.2.1 10 rfl
  have c4_2_11 := Mem.cell (v := .int .i64 t.rm) M4.2.2.1 11 rfl
  have c4_2_12 := Mem.cell (v := .int .i64 4) M4.2.2.1 12 rfl
  have c4_2_13 := Mem.cell (v := .string ⟨#[]⟩) M4.2.2.1 13 rfl
  have c4_2_14 := Mem.cell (v := .int .i64 vk) M4.2.2.1 14 rfl
  have c4_2_15 := Mem.cell (v := .int .i64 vx) M4.2.2.1 15 rfl
  have c4_2_16 := Mem.cell (v := .string vm) M4.2.2.1 16 rfl
  have c4_2_17 := Mem.cell (v := .string vS) M4.2.2.1 17 rfl
  have c4_2_18 := Mem.cell (v := .string vI) M4.2.2.1 18 rfl
  have c4_2_19 := Mem.cell (v := .bool true) M4.2.2.1 19 rfl
  have z4_2 := Mem.lt M4.2.2.1
  go_wp2_with fail
  refine bodyPost_ret (v := .agg (th ({ t with st := 4, vk := vk, vx := vx, vm := vm, vS := vS, vI := vI, ex := true, on := ⟨#[]⟩ }))) (results_th1 Tryz.results24 _ _ (w.heap.size + 1 + 1) ({ t with st := 4, vk := vk, vx := vx, vm := vm, vS := vS, vI := vI, ex := true, on := ⟨#[]⟩ }) rfl M4.1) rfl ⟨rfl, hB4⟩
set_option maxRecDepth 100000 in
set_option maxHeartbeats 2000000 in
theorem finish_ended (t : Th) (hsn : t.sc.n = 0) (vk vx : Int) (vm vS vI : ByteArray) (w : World) :
    Calls Tryz.prog 24 #[.agg (th t), .agg #[.int .i64 vk, .int .i64 vx, .string vm, .string vS, .string vI], .bool false] w fun e w' => e = .returned (.agg (th (thFin t vk vx vm vS vI false))) ∧ Below w.heap.size w w' := by
  have hS1 : decide ((0 : Int) < (t.sc.n : Int)) = false := by simp [hsn]
  have eF : thFin t vk vx vm vS vI false = { t with st := if false then 4 else 3, vk := vk, vx := vx, vm := vm, vS := vS, vI := vI, ex := false, on := ⟨#[]⟩ } := by unfold thFin; rw [if_neg (by omega)]
  have hs0 : (t.sc.n : Int) = 0 := by omega
  rw [eF]
  go_enter Tryz.func24, Tryz.ntmps24
  have hB0 := Below.refl w.heap.size w
  have M0 := Mem.nil w
  go_upto_region 2 with (fail)
  refine wp_named ?_
  intro w1 hW1
  have hB1 : Below w.heap.size w w1 := by rw [hW1]; exact (below_al (below_al (below_al hB0 _) _) _)
  have M1 : Mem w1 [(w.heap.size + 1 + 1, .cells (th (th0)) 39), (w.heap.size + 1, .cells #[.int .i64 vk, .int .i64 vx, .string vm, .string vS, .string vI] 28), (w.heap.size, .cells (th (t)) 39)] := by rw [hW1]; exact (((M0).new' (w.heap.size) (by rfl) (.cells (th (t)) 39)).new' (w.heap.size + 1) (by simp) (.cells #[.int .i64 vk, .int .i64 vx, .string vm, .string vS, .string vI] 28)).new' (w.heap.size + 1 + 1) (by simp) (.cells (th (th0)) 39)
  clear hW1
  have z1_0 := Mem.lt M1.1
  have c1_1_0 := Mem.cell (v := .int .i64 vk) M1.2.1 0 rfl
  have c1_1_1 := Mem.cell (v := .int .i64 vx) M1.2.1 1 rfl
  have c1_1_2 := Mem.cell (v := .string vm) M1.2.1 2 rfl
  have c1_1_3 := Mem.cell (v := .string vS) M1.2.1 3 rfl
  have c1_1_4 := Mem.cell (v := .string vI) M1.2.1 4 rfl
  have z1_1 := Mem.lt M1.2.1
  have c1_2_0 := Mem.cell (v := .string t.id) M1.2.2.1 0 rfl
  have c1_2_1 := Mem.cell (v := .string t.pa) M1.2.2.1 1 rfl
  have c1_2_2 := Mem.cell (v := .string t.cS) M1.2.2.1 2 rfl
  have c1_2_3 := Mem.cell (v := .string t.cI) M1.2.2.1 3 rfl
  have c1_2_4 := Mem.cell (v := .string t.kS) M1.2.2.1 4 rfl
  have c1_2_5 := Mem.cell (v := .string t.kI) M1.2.2.1 5 rfl
  have c1_2_6 := Mem.cell (v := .slice t.fr.a t.fr.n t.fr.c) M1.2.2.1 6 rfl
  have c1_2_7 := Mem.cell (v := .slice t.sk.a t.sk.n t.sk.c) M1.2.2.1 7 rfl
  have c1_2_8 := Mem.cell (v := .slice t.tr.a t.tr.n t.tr.c) M1.2.2.1 8 rfl
  have c1_2_9 := Mem.cell (v := .slice t.sc.a t.sc.n t.sc.c) M1.2.2.1 9 rfl
  have c1_2_10 := Mem.cell (v := .int .i64 t.md) M1.2.2.1 10 rfl
  have c1_2_11 := Mem.cell (v := .int .i64 t.rm) M1.2.2.1 11 rfl
  have c1_2_12 := Mem.cell (v := .int .i64 t.st) M1.2.2.1 12 rfl
  have c1_2_13 := Mem.cell (v := .string t.on) M1.2.2.1 13 rfl
  have c1_2_14 := Mem.cell (v := .int .i64 t.vk) M1.2.2.1 14 rfl
  have c1_2_15 := Mem.cell (v := .int .i64 t.vx) M1.2.2.1 15 rfl
  have c1_2_16 := Mem.cell (v := .string t.vm) M1.2.2.1 16 rfl
  have c1_2_17 := Mem.cell (v := .string t.vS) M1.2.2.1 17 rfl
  have c1_2_18 := Mem.cell (v := .string t.vI) M1.2.2.1 18 rfl
  have c1_2_19 := Mem.cell (v := .bool t.ex) M1.2.2.1 19 rfl
  have z1_2 := Mem.lt M1.2.2.1
  have f1 := fun j => Mem.free M1.2.2.1 j
  go_upto_region 6 with (fail)
  have hX1 : (w1.setCells (w.heap.size) 12 [.int .i64 3]).heap[w.heap.size]? = some (.cells (th ({ t with st := 3 })) 39) := by rw [setCells_block [.int .i64 3] 12 _ _ (M1).2.2.1 (by simp)]; rfl
  have hY1 := below_setCells (B := w.heap.size) hB1 (b := w.heap.size) (by have := hB1.size; omega) 12 [.int .i64 3]
  refine wp_named ?_
  intro w2 hW2
  have hB2 : Below w.heap.size w w2 := by rw [hW2]; exact hY1
  have M2 : Mem w2 [(w.heap.size + 1 + 1, .cells (th (th0)) 39), (w.heap.size + 1, .cells #[.int .i64 vk, .int .i64 vx, .string vm, .string vS, .string vI] 28), (w.heap.size, .cells (th ({ t with st := 3 })) 39)] := by rw [hW2]; exact ⟨(setCells_other [.int .i64 3] 12 _ _ (by omega)).trans (M1).1, (setCells_other [.int .i64 3] 12 _ _ (by omega)).trans (M1).2.1, hX1, trivial⟩
  clear z1_0 c1_1_0 c1_1_1 c1_1_2 c1_1_3 c1_1_4 z1_1 c1_2_0 c1_2_1 c1_2_2 c1_2_3 c1_2_4 c1_2_5 c1_2_6 c1_2_7 c1_2_8 c1_2_9 c1_2_10 c1_2_11 c1_2_12 c1_2_13 c1_2_14 c1_2_15 c1_2_16 c1_2_17 c1_2_18 c1_2_19 z1_2
  clear hW2 hX1 hY1
  have z2_0 := Mem.lt M2.1
  have c2_1_0 := Mem.cell (v := .int .i64 vk) M2.2.1 0 rfl
  have c2_1_1 := Mem.cell (v := .int .i64 vx) M2.2.1 1 rfl
  have c2_1_2 := Mem.cell (v := .string vm) M2.2.1 2 rfl
  have c2_1_3 := Mem.cell (v := .string vS) M2.2.1 3 rfl
  have c2_1_4 := Mem.cell (v := .string vI) M2.2.1 4 rfl
  have z2_1 := Mem.lt M2.2.1
  have c2_2_0 := Mem.cell (v := .string t.id) M2.2.2.1 0 rfl
  have c2_2_1 := Mem.cell (v := .string t.pa) M2.2.2.1 1 rfl
  have c2_2_2 := Mem.cell (v := .string t.cS) M2.2.2.1 2 rfl
  have c2_2_3 := Mem.cell (v := .string t.cI) M2.2.2.1 3 rfl
  have c2_2_4 := Mem.cell (v := .string t.kS) M2.2.2.1 4 rfl
  have c2_2_5 := Mem.cell (v := .string t.kI) M2.2.2.1 5 rfl
  have c2_2_6 := Mem.cell (v := .slice t.fr.a t.fr.n t.fr.c) M2.2.2.1 6 rfl
  have c2_2_7 := Mem.cell (v := .slice t.sk.a t.sk.n t.sk.c) M2.2.2.1 7 rfl
  have c2_2_8 := Mem.cell (v := .slice t.tr.a t.tr.n t.tr.c) M2.2.2.1 8 rfl
  have c2_2_9 := Mem.cell (v := .slice t.sc.a t.sc.n t.sc.c) M2.2.2.1 9 rfl
  have c2_2_10 := Mem.cell (v := .int .i64 t.md) M2.2.2.1 10 rfl
  have c2_2_11 := Mem.cell (v := .int .i64 t.rm) M2.2.2.1 11 rfl
  have c2_2_12 := Mem.cell (v := .int .i64 3) M2.2.2.1 12 rfl
  have c2_2_13 := Mem.cell (v := .string t.on) M2.2.2.1 13 rfl
  have c2_2_14 := Mem.cell (v := .int .i64 t.vk) M2.2.2.1 14 rfl
  have c2_2_15 := Mem.cell (v := .int .i64 t.vx) M2.2.2.1 15 rfl
  have c2_2_16 := Mem.cell (v := .string t.vm) M2.2.2.1 16 rfl
  have c2_2_17 := Mem.cell (v := .string t.vS) M2.2.2.1 17 rfl
  have c2_2_18 := Mem.cell (v := .string t.vI) M2.2.2.1 18 rfl
  have c2_2_19 := Mem.cell (v := .bool t.ex) M2.2.2.1 19 rfl
  have z2_2 := Mem.lt M2.2.2.1
  have f2 := fun j => Mem.free M2.2.2.1 j
  go_upto_region 7 with (fail)
  have hX2_0 : (w2.setCells (w.heap.size) 14 [.int .i64 vk, .int .i64 vx, .string vm, .string vS, .string vI]).heap[w.heap.size]? = some (.cells (th ({ t with st := 3, vk := vk, vx := vx, vm := vm, vS := vS, vI := vI })) 39) := by rw [setCells_block [.int .i64 vk, .int .i64 vx, .string vm, .string vS, .string vI] 14 _ _ ((M2).2.2.1) (by simp)]; rfl
  have hY2_0 := below_setCells (B := w.heap.size) hB2 (b := w.heap.size) (by have := hB2.size; omega) 14 [.int .i64 vk, .int .i64 vx, .string vm, .string vS, .string vI]
  have hX2_1 : ((w2.setCells (w.heap.size) 14 [.int .i64 vk, .int .i64 vx, .string vm, .string vS, .string vI]).setCells (w.heap.size) 19 [.bool false]).heap[w.heap.size]? = some (.cells (th ({ t with st := 3, vk := vk, vx := vx, vm := vm, vS := vS, vI := vI, ex := false })) 39) := by rw [setCells_block [.bool false] 19 _ _ (hX2_0) (by simp)]; rfl
  have hY2_1 := below_setCells (B := w.heap.size) hY2_0 (b := w.heap.size) (by have := hB2.size; omega) 19 [.bool false]
  have hX2_2 : (((w2.setCells (w.heap.size) 14 [.int .i64 vk, .int .i64 vx, .string vm, .string vS, .string vI]).setCells (w.heap.size) 19 [.bool false]).setCells (w.heap.size) 13 [.string ⟨#[]⟩]).heap[w.heap.size]? = some (.cells (th ({ t with st := 3, vk := vk, vx := vx, vm := vm, vS := vS, vI := vI, ex := false, on := ⟨#[]⟩ })) 39) := by rw [setCells_block [.string ⟨#[]⟩] 13 _ _ (hX2_1) (by simp)]; rfl
  have hY2_2 := below_setCells (B := w.heap.size) hY2_1 (b := w.heap.size) (by have := hB2.size; omega) 13 [.string ⟨#[]⟩]
  refine wp_named ?_
  intro w3 hW3
  have hB3 : Below w.heap.size w w3 := by rw [hW3]; exact hY2_2
  have M3 : Mem w3 [(w.heap.size + 1 + 1, .cells (th (th0)) 39), (w.heap.size + 1, .cells #[.int .i64 vk, .int .i64 vx, .string vm, .string vS, .string vI] 28), (w.heap.size, .cells (th ({ t with st := 3, vk := vk, vx := vx, vm := vm, vS := vS, vI := vI, ex := false, on := ⟨#[]⟩ })) 39)] := by rw [hW3]; exact ⟨(setCells_other [.string ⟨#[]⟩] 13 _ _ (by omega)).trans ((setCells_other [.bool false] 19 _ _ (by omega)).trans ((setCells_other [.int .i64 vk, .int .i64 vx, .string vm, .string vS, .string vI] 14 _ _ (by omega)).trans ((M2).1))), (setCells_other [.string ⟨#[]⟩] 13 _ _ (by omega)).trans ((setCells_other [.bool false] 19 _ _ (by omega)).trans ((setCells_other [.int .i64 vk, .int .i64 vx, .string vm, .string vS, .string vI] 14 _ _ (by omega)).trans ((M2).2.1))), hX2_2, trivial⟩
  clear z2_0 c2_1_0 c2_1_1 c2_1_2 c2_1_3 c2_1_4 z2_1 c2_2_0 c2_2_1 c2_2_2 c2_2_3 c2_2_4 c2_2_5 c2_2_6 c2_2_7 c2_2_8 c2_2_9 c2_2_10 c2_2_11 c2_2_12 c2_2_13 c2_2_14 c2_2_15 c2_2_16 c2_2_17 c2_2_18 c2_2_19 z2_2
  clear hW3 hX2_0 hY2_0 hX2_1 hY2_1 hX2_2 hY2_2
  have z3_0 := Mem.lt M3.1
  have c3_1_0 := Mem.cell (v := .int .i64 vk) M3.2.1 0 rfl
  have c3_1_1 := Mem.cell (v := .int .i64 vx) M3.2.1 1 rfl
  have c3_1_2 := Mem.cell (v := .string vm) M3.2.1 2 rfl
  have c3_1_3 := Mem.cell (v := .string vS) M3.2.1 3 rfl
  have c3_1_4 := Mem.cell (v := .string vI) M3.2.1 4 rfl
  have z3_1 := Mem.lt M3.2.1
  have c3_2_0 := Mem.cell (v := .string t.id) M3.2.2.1 0 rfl
  have c3_2_1 := Mem.cell (v := .string t.pa) M3.2.2.1 1 rfl
  have c3_2_2 := Mem.cell (v := .string t.cS) M3.2.2.1 2 rfl
  have c3_2_3 := Mem.cell (v := .string t.cI) M3.2.2.1 3 rfl
  have c3_2_4 := Mem.cell (v := .string t.kS) M3.2.2.1 4 rfl
  have c3_2_5 := Mem.cell (v := .string t.kI) M3.2.2.1 5 rfl
  have c3_2_6 := Mem.cell (v := .slice t.fr.a t.fr.n t.fr.c) M3.2.2.1 6 rfl
  have c3_2_7 := Mem.cell (v := .slice t.sk.a t.sk.n t.sk.c) M3.2.2.1 7 rfl
  have c3_2_8 := Mem.cell (v := .slice t.tr.a t.tr.n t.tr.c) M3.2.2.1 8 rfl
  have c3_2_9 := Mem.cell (v := .slice t.sc.a t.sc.n t.sc.c) M3.2.2.1 9 rfl
  have c3_2_10 := Mem.cell (v := .int .i64 t.md) M3.2.2.1 10 rfl
  have c3_2_11 := Mem.cell (v := .int .i64 t.rm) M3.2.2.1 11 rfl
  have c3_2_12 := Mem.cell (v := .int .i64 3) M3.2.2.1 12 rfl
  have c3_2_13 := Mem.cell (v := .string ⟨#[]⟩) M3.2.2.1 13 rfl
  have c3_2_14 := Mem.cell (v := .int .i64 vk) M3.2.2.1 14 rfl
  have c3_2_15 := Mem.cell (v := .int .i64 vx) M3.2.2.1 15 rfl
  have c3_2_16 := Mem.cell (v := .string vm) M3.2.2.1 16 rfl
  have c3_2_17 := Mem.cell (v := .string vS) M3.2.2.1 17 rfl
  have c3_2_18 := Mem.cell (v := .string vI) M3.2.2.1 18 rfl
  have c3_2_19 := Mem.cell (v := .bool false) M3.2.2.1 19 rfl
  have z3_2 := Mem.lt M3.2.2.1
  refine wp_region_lit ?_
  refine load_th rfl _ rfl (w.heap.size) rfl ({ t with st := 3, vk := vk, vx := vx, vm := vm, vS := vS, vI := vI, ex := false, on := ⟨#[]⟩ }) M3.2.2.1 ?_
  refine store_th rfl _ _ rfl (w.heap.size + 1 + 1) rfl (th0) ({ t with st := 3, vk := vk, vx := vx, vm := vm, vS := vS, vI := vI, ex := false, on := ⟨#[]⟩ }) rfl M3.1 (one_th _) ?_
  intro w4 hW4
  have hB4 : Below w.heap.size w w4 := by rw [hW4]; exact below_setCells (B := w.heap.size) hB3 (b := w.heap.size + 1 + 1) (by have := hB3.size; omega) 0 _
  have M4 : Mem w4 [(w.heap.size + 1 + 1, .cells (th ({ t with st := 3, vk := vk, vx := vx, vm := vm, vS := vS, vI := vI, ex := false, on := ⟨#[]⟩ })) 39), (w.heap.size + 1, .cells #[.int .i64 vk, .int .i64 vx, .string vm, .string vS, .string vI] 28), (w.heap.size, .cells (th ({ t with st := 3, vk := vk, vx := vx, vm := vm, vS := vS, vI := vI, ex := false, on := ⟨#[]⟩ })) 39)] := by rw [hW4]; exact ⟨set_th M3.1 _, (setCells_other _ 0 _ _ (by omega)).trans M3.2.1, (setCells_other _ 0 _ _ (by omega)).trans M3.2.2.1, trivial⟩
  clear z3_0 c3_1_0 c3_1_1 c3_1_2 c3_1_3 c3_1_4 z3_1 c3_2_0 c3_2_1 c3_2_2 c3_2_3 c3_2_4 c3_2_5 c3_2_6 c3_2_7 c3_2_8 c3_2_9 c3_2_10 c3_2_11 c3_2_12 c3_2_13 c3_2_14 c3_2_15 c3_2_16 c3_2_17 c3_2_18 c3_2_19 z3_2
  clear hW4
  have c4_0_0 := Mem.cell (v := .string t.id) M4.1 0 rfl
  have c4_0_1 := Mem.cell (v := .string t.pa) M4.1 1 rfl
  have c4_0_2 := Mem.cell (v := .string t.cS) M4.1 2 rfl
  have c4_0_3 := Mem.cell (v := .string t.cI) M4.1 3 rfl
  have c4_0_4 := Mem.cell (v := .string t.kS) M4.1 4 rfl
  have c4_0_5 := Mem.cell (v := .string t.kI) M4.1 5 rfl
  have c4_0_6 := Mem.cell (v := .slice t.fr.a t.fr.n t.fr.c) M4.1 6 rfl
  have c4_0_7 := Mem.cell (v := .slice t.sk.a t.sk.n t.sk.c) M4.1 7 rfl
  have c4_0_8 := Mem.cell (v := .slice t.tr.a t.tr.n t.tr.c) M4.1 8 rfl
  have c4_0_9 := Mem.cell (v := .slice t.sc.a t.sc.n t.sc.c) M4.1 9 rfl
  have c4_0_10 := Mem.cell (v := .int .i64 t.md) M4.1 10 rfl
  have c4_0_11 := Mem.cell (v := .int .i64 t.rm) M4.1 11 rfl
  have c4_0_12 := Mem.cell (v := .int .i64 3) M4.1 12 rfl
  have c4_0_13 := Mem.cell (v := .string ⟨#[]⟩) M4.1 13 rfl
  have c4_0_14 := Mem.cell (v := .int .i64 vk) M4.1 14 rfl
  have c4_0_15 := Mem.cell (v := .int .i64 vx) M4.1 15 rfl
  have c4_0_16 := Mem.cell (v := .string vm) M4.1 16 rfl
  have c4_0_17 := Mem.cell (v := .string vS) M4.1 17 rfl
  have c4_0_18 := Mem.cell (v := .string vI) M4.1 18 rfl
  have c4_0_19 := Mem.cell (v := .bool false) M4.1 19 rfl
  have z4_0 := Mem.lt M4.1
  have c4_1_0 := Mem.cell (v := .int .i64 vk) M4.2.1 0 rfl
  have c4_1_1 := Mem.cell (v := .int .i64 vx) M4.2.1 1 rfl
  have c4_1_2 := Mem.cell (v := .string vm) M4.2.1 2 rfl
  have c4_1_3 := Mem.cell (v := .string vS) M4.2.1 3 rfl
  have c4_1_4 := Mem.cell (v := .string vI) M4.2.1 4 rfl
  have z4_1 := Mem.lt M4.2.1
  have c4_2_0 := Mem.cell (v := .string t.id) M4.2.2.1 0 rfl
  have c4_2_1 := Mem.cell (v := .string t.pa) M4.2.2.1 1 rfl
  have c4_2_2 := Mem.cell (v := .string t.cS) M4.2.2.1 2 rfl
  have c4_2_3 := Mem.cell (v := .string t.cI) M4.2.2.1 3 rfl
  have c4_2_4 := Mem.cell (v := .string t.kS) M4.2.2.1 4 rfl
  have c4_2_5 := Mem.cell (v := .string t.kI) M4.2.2.1 5 rfl
  have c4_2_6 := Mem.cell (v := .slice t.fr.a t.fr.n t.fr.c) M4.2.2.1 6 rfl
  have c4_2_7 := Mem.cell (v := .slice t.sk.a t.sk.n t.sk.c) M4.2.2.1 7 rfl
  have c4_2_8 := Mem.cell (v := .slice t.tr.a t.tr.n t.tr.c) M4.2.2.1 8 rfl
  have c4_2_9 := Mem.cell (v := .slice t.sc.a t.sc.n t.sc.c) M4.2.2.1 9 rfl
  have c4_2_10 := Mem.cell (v := .int .i64 t.md) M4.2.2.1 10 rfl
  have c4_2_11 := Mem.cell (v := .int .i64 t.rm) M4.2.2.1 11 rfl
  have c4_2_12 := Mem.cell (v := .int .i64 3) M4.2.2.1 12 rfl
  have c4_2_13 := Mem.cell (v := .string ⟨#[]⟩) M4.2.2.1 13 rfl
  have c4_2_14 := Mem.cell (v := .int .i64 vk) M4.2.2.1 14 rfl
  have c4_2_15 := Mem.cell (v := .int .i64 vx) M4.2.2.1 15 rfl
  have c4_2_16 := Mem.cell (v := .string vm) M4.2.2.1 16 rfl
  have c4_2_17 := Mem.cell (v := .string vS) M4.2.2.1 17 rfl
  have c4_2_18 := Mem.cell (v := .string vI) M4.2.2.1 18 rfl
  have c4_2_19 := Mem.cell (v := .bool false) M4.2.2.1 19 rfl
  have z4_2 := Mem.lt M4.2.2.1
  go_wp2_with fail
  refine bodyPost_ret (v := .agg (th ({ t with st := 3, vk := vk, vx := vx, vm := vm, vS := vS, vI := vI, ex := false, on := ⟨#[]⟩ }))) (results_th1 Tryz.results24 _ _ (w.heap.size + 1 + 1) ({ t with st := 3, vk := vk, vx := vx, vm := vm, vS := vS, vI := vI, ex := false, on := ⟨#[]⟩ }) rfl M4.1) rfl ⟨rfl, hB4⟩
theorem finish_any (t : Th) (vk vx : Int) (vm vS vI : ByteArray) (ex : Bool) (w : World) :
    Calls Tryz.prog 24 #[.agg (th t), .agg #[.int .i64 vk, .int .i64 vx, .string vm, .string vS, .string vI], .bool ex] w fun e w' => e = .returned (.agg (th (thFin t vk vx vm vS vI ex))) ∧ Below w.heap.size w w' := by
  by_cases h : 0 < t.sc.n
  · exact finish_some t h vk vx vm vS vI ex w
  · cases ex
    · exact finish_ended t (by omega) vk vx vm vS vI w
    · exact finish_failed t (by omega) vk vx vm vS vI w
end Go.Proofs.YtnmepcogijgbjaaGreatDoor
