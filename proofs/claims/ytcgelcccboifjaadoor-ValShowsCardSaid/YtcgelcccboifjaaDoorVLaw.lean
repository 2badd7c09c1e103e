/- chapter 7's few and examples. -/
import Derived.Test.YtcgelcccboifjaaDoorVal6
import Derived.StillTailTactics
namespace Go.Proofs.YtcgelcccboifjaaDoor
open Go.RowKit
def cut8 (s : ByteArray) : ByteArray := s.extract 0 (min s.size 8)
theorem slice8 (s : ByteArray) (W : World) : (Instr.slice 22 (.string s) none (some (.int .i64 (min (s.size : Int) 8))) none).run Tryd.prog W = .ok (.string (cut8 s)) W := by
  have h := run_slice_string_h (P := Tryd.prog) (w := W) 22 s Tryd.underlying22 .i64 (min (s.size : Int) 8) (by omega) (by omega)
  rw [h]
  unfold cut8
  rw [show (min (s.size : Int) 8).toNat = min s.size 8 by omega]
set_option maxRecDepth 100000 in
set_option maxHeartbeats 1000000 in
theorem few_any (k n : Int) (m s i : ByteArray) (w : World) :
    Calls Tryd.prog 9 #[.agg #[.int .i64 k, .int .i64 n, .string m, .string s, .string i]] w fun e w' => e = .returned (.agg #[.int .i64 k, .int .i64 n, .string m, .string (cut8 s), .string (cut8 i)]) ∧ Below w.heap.size w w' := by
  go_enter Tryd.func9, Tryd.ntmps9
  have hB0 := Below.refl w.heap.size w
  have M0 := Mem.nil w
  go_upto_region 1 with (fail)
  refine wp_named ?_
  intro w1 hW1
  have hB1 : Below w.heap.size w w1 := by rw [hW1]; exact (below_al (below_al hB0 _) _)
  have M1 := ((M0).new' (w.heap.size) (by rfl) (.cells #[.int .i64 k, .int .i64 n, .string m, .string s, .string i] 26)).new' (w.heap.size + 1) (by simp) (.cells #[.int .i64 0, .int .i64 0, .string ⟨#[]⟩, .string ⟨#[]⟩, .string ⟨#[]⟩] 26)
  rw [← hW1] at M1
  clear hW1
  have c1_0_0 := Mem.cell (v := .int .i64 0) M1.1 0 rfl
  have c1_0_1 := Mem.cell (v := .int .i64 0) M1.1 1 rfl
  have c1_0_2 := Mem.cell (v := .string ⟨#[]⟩) M1.1 2 rfl
  have c1_0_3 := Mem.cell (v := .string ⟨#[]⟩) M1.1 3 rfl
  have c1_0_4 := Mem.cell (v := .string ⟨#[]⟩) M1.1 4 rfl
  have z1_0 := Mem.lt M1.1
  have c1_1_0 := Mem.cell (v := .int .i64 k) M1.2.1 0 rfl
  have c1_1_1 := Mem.cell (v := .int .i64 n) M1.2.1 1 rfl
  have c1_1_2 := Mem.cell (v := .string m) M1.2.1 2 rfl
  have c1_1_3 := Mem.cell (v := .string s) M1.2.1 3 rfl
  have c1_1_4 := Mem.cell (v := .string i) M1.2.1 4 rfl
  have z1_1 := Mem.lt M1.2.1
  have hsl1 := slice8 s
  have hsl2 := slice8 i
  go_still_tail 20, (by kernel_rfl)
  change wpList _ _ _ _ _ w1.drew
  obtain ⟨w2, hW2⟩ : ∃ x, x = w1.drew := ⟨_, rfl⟩
  have hB2 : Below w.heap.size w w2 := by rw [hW2]; exact below_dr hB1
  have M2 := Mem.drew M1
  rw [← hW2] at M2
  rw [← hW2]
  clear c1_0_0 c1_0_1 c1_0_2 c1_0_3 c1_0_4 z1_0 c1_1_0 c1_1_1 c1_1_2 c1_1_3 c1_1_4 z1_1
  clear hW2
  have c2_0_0 := Mem.cell (v := .int .i64 0) M2.1 0 rfl
  have c2_0_1 := Mem.cell (v := .int .i64 0) M2.1 1 rfl
  have c2_0_2 := Mem.cell (v := .string ⟨#[]⟩) M2.1 2 rfl
  have c2_0_3 := Mem.cell (v := .string ⟨#[]⟩) M2.1 3 rfl
  have c2_0_4 := Mem.cell (v := .string ⟨#[]⟩) M2.1 4 rfl
  have z2_0 := Mem.lt M2.1
  have c2_1_0 := Mem.cell (v := .int .i64 k) M2.2.1 0 rfl
  have c2_1_1 := Mem.cell (v := .int .i64 n) M2.2.1 1 rfl
  have c2_1_2 := Mem.cell (v := .string m) M2.2.1 2 rfl
  have c2_1_3 := Mem.cell (v := .string s) M2.2.1 3 rfl
  have c2_1_4 := Mem.cell (v := .string i) M2.2.1 4 rfl
  have z2_1 := Mem.lt M2.2.1
  have f2 := fun j => Mem.free M2.2.1 j
  go_upto_region 2 with (fail)
  have hX2 : (w2.setCells (w.heap.size) 3 [.string (cut8 s), .string (cut8 i)]).heap[w.heap.size]? = some (.cells #[.int .i64 k, .int .i64 n, .string m, .string (cut8 s), .string (cut8 i)] 26) := by rw [setCells_block [.string (cut8 s), .string (cut8 i)] 3 _ _ (M2).2.1 (by simp)]; rfl
  have hY2 := below_setCells (B := w.heap.size) hB2 (b := w.heap.size) (by have := hB2.size; omega) 3 [.string (cut8 s), .string (cut8 i)]
  refine wp_named ?_
  intro w3 hW3
  have hB3 : Below w.heap.size w w3 := by rw [hW3]; exact hY2
  have M3 : Mem w3 [(w.heap.size + 1, .cells #[.int .i64 0, .int .i64 0, .string ⟨#[]⟩, .string ⟨#[]⟩, .string ⟨#[]⟩] 26), (w.heap.size, .cells #[.int .i64 k, .int .i64 n, .string m, .string (cut8 s), .string (cut8 i)] 26)] := by rw [hW3]; exact ⟨(setCells_other [.string (cut8 s), .string (cut8 i)] 3 _ _ (by omega)).trans (M2).1, hX2, trivial⟩
  clear c2_0_0 c2_0_1 c2_0_2 c2_0_3 c2_0_4 z2_0 c2_1_0 c2_1_1 c2_1_2 c2_1_3 c2_1_4 z2_1
  clear hW3 hX2 hY2
  have c3_0_0 := Mem.cell (v := .int .i64 0) M3.1 0 rfl
  have c3_0_1 := Mem.cell (v := .int .i64 0) M3.1 1 rfl
  have c3_0_2 := Mem.cell (v := .string ⟨#[]⟩) M3.1 2 rfl
  have c3_0_3 := Mem.cell (v := .string ⟨#[]⟩) M3.1 3 rfl
  have c3_0_4 := Mem.cell (v := .string ⟨#[]⟩) M3.1 4 rfl
  have z3_0 := Mem.lt M3.1
  have c3_1_0 := Mem.cell (v := .int .i64 k) M3.2.1 0 rfl
  have c3_1_1 := Mem.cell (v := .int .i64 n) M3.2.1 1 rfl
  have c3_1_2 := Mem.cell (v := .string m) M3.2.1 2 rfl
  have c3_1_3 := Mem.cell (v := .string (cut8 s)) M3.2.1 3 rfl
  have c3_1_4 := Mem.cell (v := .string (cut8 i)) M3.2.1 4 rfl
  have z3_1 := Mem.lt M3.2.1
  have f3 := fun j => Mem.free M3.1 j
  go_wp2_with fail
  have hX3 := set_block (M3).1 [.int .i64 k, .int .i64 n, .string m, .string (cut8 s), .string (cut8 i)] rfl
  have hY3 := below_setCells (B := w.heap.size) hB3 (b := w.heap.size + 1) (by have := hB3.size; omega) 0 [.int .i64 k, .int .i64 n, .string m, .string (cut8 s), .string (cut8 i)]
  obtain ⟨W_e, hW_e⟩ : ∃ W_e, W_e = w3.setCells (w.heap.size + 1) 0 [.int .i64 k, .int .i64 n, .string m, .string (cut8 s), .string (cut8 i)] := ⟨_, rfl⟩
  rw [← hW_e] at hX3 hY3
  refine at_world hW_e ?_
  have k_0 := Mem.cell (v := .int .i64 k) hX3 0 rfl
  have k_1 := Mem.cell (v := .int .i64 n) hX3 1 rfl
  have k_2 := Mem.cell (v := .string m) hX3 2 rfl
  have k_3 := Mem.cell (v := .string (cut8 s)) hX3 3 rfl
  have k_4 := Mem.cell (v := .string (cut8 i)) hX3 4 rfl
  refine bodyPost_ret (v := .agg #[.int .i64 k, .int .i64 n, .string m, .string (cut8 s), .string (cut8 i)]) (by simp [results, Tryd.results9, go_sem, k_0, k_1, k_2, k_3, k_4]) rfl ⟨rfl, hY3⟩
theorem exPutB_v : (vl 3 0 ⟨#[48, 46, 51]⟩ ⟨#[1]⟩ ⟨#[]⟩).put = [3, 3, 48, 46, 51, 1, 1, 0] := by decide +kernel
theorem exPutB (w : World) (hw : LaidV w) : Calls Tryd.prog 11 #[.agg #[.int .i64 3, .int .i64 0, .string ⟨#[48, 46, 51]⟩, .string ⟨#[1]⟩, .string ⟨#[]⟩]] w fun e w' => e = .returned (.string ⟨#[3, 3, 48, 46, 51, 1, 1, 0]⟩) ∧ Below w.heap.size w w' := by
  have := vput_any 3 0 (by unfold InI64; omega) ⟨#[48, 46, 51]⟩ ⟨#[1]⟩ ⟨#[]⟩ (by decide) (by decide) (by decide) w hw
  rw [exPutB_v] at this
  exact this
theorem exPutN_v : (vl 1 (-65) ⟨#[]⟩ ⟨#[]⟩ ⟨#[]⟩).put = [1, 129, 1] := by decide +kernel
theorem exPutN (w : World) (hw : LaidV w) : Calls Tryd.prog 11 #[.agg #[.int .i64 1, .int .i64 (-65), .string ⟨#[]⟩, .string ⟨#[]⟩, .string ⟨#[]⟩]] w fun e w' => e = .returned (.string ⟨#[1, 129, 1]⟩) ∧ Below w.heap.size w w' := by
  have := vput_any 1 (-65) (by unfold InI64; omega) ⟨#[]⟩ ⟨#[]⟩ ⟨#[]⟩ (by decide) (by decide) (by decide) w hw
  rw [exPutN_v] at this
  exact this
theorem exPutZ_v : (vl 0 0 ⟨#[]⟩ ⟨#[]⟩ ⟨#[]⟩).put = [] := by decide +kernel
theorem exPutZ (w : World) (hw : LaidV w) : Calls Tryd.prog 11 #[.agg #[.int .i64 0, .int .i64 0, .string ⟨#[]⟩, .string ⟨#[]⟩, .string ⟨#[]⟩]] w fun e w' => e = .returned (.string ⟨#[]⟩) ∧ Below w.heap.size w w' := by
  have := vput_any 0 0 (by unfold InI64; omega) ⟨#[]⟩ ⟨#[]⟩ ⟨#[]⟩ (by decide) (by decide) (by decide) w hw
  rw [exPutZ_v] at this
  exact this
theorem exTextB_v : (vl 3 0 ⟨#[48, 46, 51]⟩ ⟨#[1]⟩ ⟨#[]⟩).text = [98, 111, 120, 58, 48, 46, 51, 60, 97, 47, 84, 62] := by decide +kernel
theorem exTextB (w : World) (hw : LaidV w) : Calls Tryd.prog 12 #[.agg #[.int .i64 3, .int .i64 0, .string ⟨#[48, 46, 51]⟩, .string ⟨#[1]⟩, .string ⟨#[]⟩]] w fun e w' => e = .returned (.string ⟨#[98, 111, 120, 58, 48, 46, 51, 60, 97, 47, 84, 62]⟩) ∧ Below w.heap.size w w' := by
  have := vtext_any 3 0 (by unfold InI64; omega) ⟨#[48, 46, 51]⟩ ⟨#[1]⟩ ⟨#[]⟩ (by decide) (by decide) (by decide) w hw
  rw [exTextB_v] at this
  exact this
theorem exTextN_v : (vl 1 (-65) ⟨#[]⟩ ⟨#[]⟩ ⟨#[]⟩).text = [45, 54, 53] := by decide +kernel
theorem exTextN (w : World) (hw : LaidV w) : Calls Tryd.prog 12 #[.agg #[.int .i64 1, .int .i64 (-65), .string ⟨#[]⟩, .string ⟨#[]⟩, .string ⟨#[]⟩]] w fun e w' => e = .returned (.string ⟨#[45, 54, 53]⟩) ∧ Below w.heap.size w w' := by
  have := vtext_any 1 (-65) (by unfold InI64; omega) ⟨#[]⟩ ⟨#[]⟩ ⟨#[]⟩ (by decide) (by decide) (by decide) w hw
  rw [exTextN_v] at this
  exact this
theorem exHandleB_v : (decide (3 ≤ (3 : Int)) && (vl 3 0 ⟨#[48, 46, 51]⟩ ⟨#[1]⟩ ⟨#[]⟩).right) = true := by decide +kernel
theorem exHandleB (w : World) (hw : LaidV w) : Calls Tryd.prog 16 #[.agg #[.int .i64 3, .int .i64 0, .string ⟨#[48, 46, 51]⟩, .string ⟨#[1]⟩, .string ⟨#[]⟩]] w fun e w' => e = .returned (.bool true) ∧ Below w.heap.size w w' := by
  have := vhandle_any 3 0 ⟨#[48, 46, 51]⟩ ⟨#[1]⟩ ⟨#[]⟩ (by decide) (by decide) (by decide) w hw
  rw [exHandleB_v] at this
  exact this
theorem exHandleN_v : (decide (3 ≤ (1 : Int)) && (vl 1 (-65) ⟨#[]⟩ ⟨#[]⟩ ⟨#[]⟩).right) = false := by decide +kernel
theorem exHandleN (w : World) (hw : LaidV w) : Calls Tryd.prog 16 #[.agg #[.int .i64 1, .int .i64 (-65), .string ⟨#[]⟩, .string ⟨#[]⟩, .string ⟨#[]⟩]] w fun e w' => e = .returned (.bool false) ∧ Below w.heap.size w w' := by
  have := vhandle_any 1 (-65) ⟨#[]⟩ ⟨#[]⟩ ⟨#[]⟩ (by decide) (by decide) (by decide) w hw
  rw [exHandleN_v] at this
  exact this
theorem exRightZ_v : (vl 0 0 ⟨#[]⟩ ⟨#[]⟩ ⟨#[]⟩).right = false := by decide +kernel
theorem exRightZ (w : World) (hw : LaidV w) : Calls Tryd.prog 10 #[.agg #[.int .i64 0, .int .i64 0, .string ⟨#[]⟩, .string ⟨#[]⟩, .string ⟨#[]⟩]] w fun e w' => e = .returned (.bool false) ∧ Below w.heap.size w w' := by
  have := vright_any 0 0 ⟨#[]⟩ ⟨#[]⟩ ⟨#[]⟩ (by decide) (by decide) (by decide) w hw
  rw [exRightZ_v] at this
  exact this
theorem exGet_v : vgetE (getV ((⟨#[120]⟩ ++ ⟨#[3, 3, 48, 46, 51, 1, 1, 0]⟩ : ByteArray).data.toList.drop 1)) 1 = .returned (.tuple #[.agg #[.int .i64 3, .int .i64 0, .string ⟨#[48, 46, 51]⟩, .string ⟨#[1]⟩, .string ⟨#[]⟩], .int .i64 9, .bool true]) := by kernel_rfl
theorem exGet (w : World) (hw : LaidV w) : Calls Tryd.prog 13 #[.string (⟨#[120]⟩ ++ ⟨#[3, 3, 48, 46, 51, 1, 1, 0]⟩), .int .i64 1] w fun e w' => e = .returned (.tuple #[.agg #[.int .i64 3, .int .i64 0, .string ⟨#[48, 46, 51]⟩, .string ⟨#[1]⟩, .string ⟨#[]⟩], .int .i64 9, .bool true]) ∧ Below w.heap.size w w' := by
  have := vget_any (⟨#[120]⟩ ++ ⟨#[3, 3, 48, 46, 51, 1, 1, 0]⟩) 1 w (by decide) hw
  rw [exGet_v] at this
  exact this
set_option maxRecDepth 100000 in
set_option maxHeartbeats 2000000 in
theorem vexamples_any (w : World) (hw : LaidV w) : Calls Tryd.prog 8 #[] w fun e w' => e = .returned (.bool true) ∧ Below w.heap.size w w' := by
  go_enter Tryd.func8, Tryd.ntmps8
  have hB0 := Below.refl w.heap.size w
  have M0 := Mem.nil w
  have hw0 := hw
  go_wp2_with fail
  refine Calls.named ?_
  intro W1 hW1
  have hB1_ : Below w.heap.size w W1 := by rw [hW1]; exact (below_al (below_al hB0 _) _)
  have hw1_ : LaidV W1 := by rw [hW1]; exact ((hw.alloc _).alloc _)
  have M1_ := ((M0).new' (w.heap.size) (by rfl) (.cells #[.int .i64 3, .int .i64 0, .string ⟨#[48, 46, 51]⟩, .string ⟨#[1]⟩, .string ⟨#[]⟩] 26)).new' (w.heap.size + 1) (by simp) (.cells #[.int .i64 1, .int .i64 (-65), .string ⟨#[]⟩, .string ⟨#[]⟩, .string ⟨#[]⟩] 26)
  rw [← hW1] at M1_
  clear hW1
  have ZZ1_0 := Lib.hid (Mem.lt M1_.1)
  have ZZ1_1 := Lib.hid (Mem.lt M1_.2.1)
  refine (exPutB _ hw1_).mono ?_
  rintro e w1 ⟨rfl, hb1⟩
  have hB1 := below_then hB1_ hb1
  have hw1 := hw1_.below hb1
  have M1 := M1_.below hb1
  clear M1_ hB1_ hb1 hw1_
  have c1_0_0 := Mem.cell (v := .int .i64 1) M1.1 0 rfl
  have c1_0_1 := Mem.cell (v := .int .i64 (-65)) M1.1 1 rfl
  have c1_0_2 := Mem.cell (v := .string ⟨#[]⟩) M1.1 2 rfl
  have c1_0_3 := Mem.cell (v := .string ⟨#[]⟩) M1.1 3 rfl
  have c1_0_4 := Mem.cell (v := .string ⟨#[]⟩) M1.1 4 rfl
  have z1_0 := Mem.lt M1.1
  have c1_1_0 := Mem.cell (v := .int .i64 3) M1.2.1 0 rfl
  have c1_1_1 := Mem.cell (v := .int .i64 0) M1.2.1 1 rfl
  have c1_1_2 := Mem.cell (v := .string ⟨#[48, 46, 51]⟩) M1.2.1 2 rfl
  have c1_1_3 := Mem.cell (v := .string ⟨#[1]⟩) M1.2.1 3 rfl
  have c1_1_4 := Mem.cell (v := .string ⟨#[]⟩) M1.2.1 4 rfl
  have z1_1 := Mem.lt M1.2.1
  go_wp2_with fail
  refine Calls.named ?_
  intro W2 hW2
  have hB2_ : Below w.heap.size w W2 := by rw [hW2]; exact hB1
  have hw2_ : LaidV W2 := by rw [hW2]; exact hw1
  have M2_ := M1
  rw [← hW2] at M2_
  clear hW2
  have ZZ2_0 := Lib.hid (Mem.lt M2_.1)
  have ZZ2_1 := Lib.hid (Mem.lt M2_.2.1)
  clear c1_0_0 c1_0_1 c1_0_2 c1_0_3 c1_0_4 z1_0 c1_1_0 c1_1_1 c1_1_2 c1_1_3 c1_1_4 z1_1
  refine (exGet _ hw2_).mono ?_
  rintro e w2 ⟨rfl, hb2⟩
  have hB2 := below_then hB2_ hb2
  have hw2 := hw2_.below hb2
  have M2 := M2_.below hb2
  clear M2_ hB2_ hb2 hw2_
  have c2_0_0 := Mem.cell (v := .int .i64 1) M2.1 0 rfl
  have c2_0_1 := Mem.cell (v := .int .i64 (-65)) M2.1 1 rfl
  have c2_0_2 := Mem.cell (v := .string ⟨#[]⟩) M2.1 2 rfl
  have c2_0_3 := Mem.cell (v := .string ⟨#[]⟩) M2.1 3 rfl
  have c2_0_4 := Mem.cell (v := .string ⟨#[]⟩) M2.1 4 rfl
  have z2_0 := Mem.lt M2.1
  have c2_1_0 := Mem.cell (v := .int .i64 3) M2.2.1 0 rfl
  have c2_1_1 := Mem.cell (v := .int .i64 0) M2.2.1 1 rfl
  have c2_1_2 := Mem.cell (v := .string ⟨#[48, 46, 51]⟩) M2.2.1 2 rfl
  have c2_1_3 := Mem.cell (v := .string ⟨#[1]⟩) M2.2.1 3 rfl
  have c2_1_4 := Mem.cell (v := .string ⟨#[]⟩) M2.2.1 4 rfl
  have z2_1 := Mem.lt M2.2.1
  go_wp2_with fail
  refine Calls.named ?_
  intro W3 hW3
  have hB3_ : Below w.heap.size w W3 := by rw [hW3]; exact (below_al hB2 _)
  have hw3_ : LaidV W3 := by rw [hW3]; exact (hw2.alloc _)
  have M3_ := (M2).new' (w2.heap.size) (by rfl) (.cells #[.int .i64 3, .int .i64 0, .string ⟨#[48, 46, 51]⟩, .string ⟨#[1]⟩, .string ⟨#[]⟩] 26)
  rw [← hW3] at M3_
  clear hW3
  have ZZ3_0 := Lib.hid (Mem.lt M3_.1)
  have ZZ3_1 := Lib.hid (Mem.lt M3_.2.1)
  have ZZ3_2 := Lib.hid (Mem.lt M3_.2.2.1)
  clear c2_0_0 c2_0_1 c2_0_2 c2_0_3 c2_0_4 z2_0 c2_1_0 c2_1_1 c2_1_2 c2_1_3 c2_1_4 z2_1
  refine (exTextB _ hw3_).mono ?_
  rintro e w3 ⟨rfl, hb3⟩
  have hB3 := below_then hB3_ hb3
  have hw3 := hw3_.below hb3
  have M3 := M3_.below hb3
  clear M3_ hB3_ hb3 hw3_
  have c3_0_0 := Mem.cell (v := .int .i64 3) M3.1 0 rfl
  have c3_0_1 := Mem.cell (v := .int .i64 0) M3.1 1 rfl
  have c3_0_2 := Mem.cell (v := .string ⟨#[48, 46, 51]⟩) M3.1 2 rfl
  have c3_0_3 := Mem.cell (v := .string ⟨#[1]⟩) M3.1 3 rfl
  have c3_0_4 := Mem.cell (v := .string ⟨#[]⟩) M3.1 4 rfl
  have z3_0 := Mem.lt M3.1
  have c3_1_0 := Mem.cell (v := .int .i64 1) M3.2.1 0 rfl
  have c3_1_1 := Mem.cell (v := .int .i64 (-65)) M3.2.1 1 rfl
  have c3_1_2 := Mem.cell (v := .string ⟨#[]⟩) M3.2.1 2 rfl
  have c3_1_3 := Mem.cell (v := .string ⟨#[]⟩) M3.2.1 3 rfl
  have c3_1_4 := Mem.cell (v := .string ⟨#[]⟩) M3.2.1 4 rfl
  have z3_1 := Mem.lt M3.2.1
  have c3_2_0 := Mem.cell (v := .int .i64 3) M3.2.2.1 0 rfl
  have c3_2_1 := Mem.cell (v := .int .i64 0) M3.2.2.1 1 rfl
  have c3_2_2 := Mem.cell (v := .string ⟨#[48, 46, 51]⟩) M3.2.2.1 2 rfl
  have c3_2_3 := Mem.cell (v := .string ⟨#[1]⟩) M3.2.2.1 3 rfl
  have c3_2_4 := Mem.cell (v := .string ⟨#[]⟩) M3.2.2.1 4 rfl
  have z3_2 := Mem.lt M3.2.2.1
  go_wp2_with fail
  refine Calls.named ?_
  intro W4 hW4
  have hB4_ : Below w.heap.size w W4 := by rw [hW4]; exact hB3
  have hw4_ : LaidV W4 := by rw [hW4]; exact hw3
  have M4_ := M3
  rw [← hW4] at M4_
  clear hW4
  have ZZ4_0 := Lib.hid (Mem.lt M4_.1)
  have ZZ4_1 := Lib.hid (Mem.lt M4_.2.1)
  have ZZ4_2 := Lib.hid (Mem.lt M4_.2.2.1)
  clear c3_0_0 c3_0_1 c3_0_2 c3_0_3 c3_0_4 z3_0 c3_1_0 c3_1_1 c3_1_2 c3_1_3 c3_1_4 z3_1 c3_2_0 c3_2_1 c3_2_2 c3_2_3 c3_2_4 z3_2
  refine (exHandleB _ hw4_).mono ?_
  rintro e w4 ⟨rfl, hb4⟩
  have hB4 := below_then hB4_ hb4
  have hw4 := hw4_.below hb4
  have M4 := M4_.below hb4
  clear M4_ hB4_ hb4 hw4_
  have c4_0_0 := Mem.cell (v := .int .i64 3) M4.1 0 rfl
  have c4_0_1 := Mem.cell (v := .int .i64 0) M4.1 1 rfl
  have c4_0_2 := Mem.cell (v := .string ⟨#[48, 46, 51]⟩) M4.1 2 rfl
  have c4_0_3 := Mem.cell (v := .string ⟨#[1]⟩) M4.1 3 rfl
  have c4_0_4 := Mem.cell (v := .string ⟨#[]⟩) M4.1 4 rfl
  have z4_0 := Mem.lt M4.1
  have c4_1_0 := Mem.cell (v := .int .i64 1) M4.2.1 0 rfl
  have c4_1_1 := Mem.cell (v := .int .i64 (-65)) M4.2.1 1 rfl
  have c4_1_2 := Mem.cell (v := .string ⟨#[]⟩) M4.2.1 2 rfl
  have c4_1_3 := Mem.cell (v := .string ⟨#[]⟩) M4.2.1 3 rfl
  have c4_1_4 := Mem.cell (v := .string ⟨#[]⟩) M4.2.1 4 rfl
  have z4_1 := Mem.lt M4.2.1
  have c4_2_0 := Mem.cell (v := .int .i64 3) M4.2.2.1 0 rfl
  have c4_2_1 := Mem.cell (v := .int .i64 0) M4.2.2.1 1 rfl
  have c4_2_2 := Mem.cell (v := .string ⟨#[48, 46, 51]⟩) M4.2.2.1 2 rfl
  have c4_2_3 := Mem.cell (v := .string ⟨#[1]⟩) M4.2.2.1 3 rfl
  have c4_2_4 := Mem.cell (v := .string ⟨#[]⟩) M4.2.2.1 4 rfl
  have z4_2 := Mem.lt M4.2.2.1
  go_wp2_with fail
  refine Calls.named ?_
  intro W5 hW5
  have hB5_ : Below w.heap.size w W5 := by rw [hW5]; exact hB4
  have hw5_ : LaidV W5 := by rw [hW5]; exact hw4
  have M5_ := M4
  rw [← hW5] at M5_
  clear hW5
  have ZZ5_0 := Lib.hid (Mem.lt M5_.1)
  have ZZ5_1 := Lib.hid (Mem.lt M5_.2.1)
  have ZZ5_2 := Lib.hid (Mem.lt M5_.2.2.1)
  clear c4_0_0 c4_0_1 c4_0_2 c4_0_3 c4_0_4 z4_0 c4_1_0 c4_1_1 c4_1_2 c4_1_3 c4_1_4 z4_1 c4_2_0 c4_2_1 c4_2_2 c4_2_3 c4_2_4 z4_2
  refine (exHandleN _ hw5_).mono ?_
  rintro e w5 ⟨rfl, hb5⟩
  have hB5 := below_then hB5_ hb5
  have hw5 := hw5_.below hb5
  have M5 := M5_.below hb5
  clear M5_ hB5_ hb5 hw5_
  have c5_0_0 := Mem.cell (v := .int .i64 3) M5.1 0 rfl
  have c5_0_1 := Mem.cell (v := .int .i64 0) M5.1 1 rfl
  have c5_0_2 := Mem.cell (v := .string ⟨#[48, 46, 51]⟩) M5.1 2 rfl
  have c5_0_3 := Mem.cell (v := .string ⟨#[1]⟩) M5.1 3 rfl
  have c5_0_4 := Mem.cell (v := .string ⟨#[]⟩) M5.1 4 rfl
  have z5_0 := Mem.lt M5.1
  have c5_1_0 := Mem.cell (v := .int .i64 1) M5.2.1 0 rfl
  have c5_1_1 := Mem.cell (v := .int .i64 (-65)) M5.2.1 1 rfl
  have c5_1_2 := Mem.cell (v := .string ⟨#[]⟩) M5.2.1 2 rfl
  have c5_1_3 := Mem.cell (v := .string ⟨#[]⟩) M5.2.1 3 rfl
  have c5_1_4 := Mem.cell (v := .string ⟨#[]⟩) M5.2.1 4 rfl
  have z5_1 := Mem.lt M5.2.1
  have c5_2_0 := Mem.cell (v := .int .i64 3) M5.2.2.1 0 rfl
  have c5_2_1 := Mem.cell (v := .int .i64 0) M5.2.2.1 1 rfl
  have c5_2_2 := Mem.cell (v := .string ⟨#[48, 46, 51]⟩) M5.2.2.1 2 rfl
  have c5_2_3 := Mem.cell (v := .string ⟨#[1]⟩) M5.2.2.1 3 rfl
  have c5_2_4 := Mem.cell (v := .string ⟨#[]⟩) M5.2.2.1 4 rfl
  have z5_2 := Mem.lt M5.2.2.1
  go_wp2_with fail
  refine Calls.named ?_
  intro W6 hW6
  have hB6_ : Below w.heap.size w W6 := by rw [hW6]; exact hB5
  have hw6_ : LaidV W6 := by rw [hW6]; exact hw5
  have M6_ := M5
  rw [← hW6] at M6_
  clear hW6
  have ZZ6_0 := Lib.hid (Mem.lt M6_.1)
  have ZZ6_1 := Lib.hid (Mem.lt M6_.2.1)
  have ZZ6_2 := Lib.hid (Mem.lt M6_.2.2.1)
  clear c5_0_0 c5_0_1 c5_0_2 c5_0_3 c5_0_4 z5_0 c5_1_0 c5_1_1 c5_1_2 c5_1_3 c5_1_4 z5_1 c5_2_0 c5_2_1 c5_2_2 c5_2_3 c5_2_4 z5_2
  refine (exPutN _ hw6_).mono ?_
  rintro e w6 ⟨rfl, hb6⟩
  have hB6 := below_then hB6_ hb6
  have hw6 := hw6_.below hb6
  have M6 := M6_.below hb6
  clear M6_ hB6_ hb6 hw6_
  have c6_0_0 := Mem.cell (v := .int .i64 3) M6.1 0 rfl
  have c6_0_1 := Mem.cell (v := .int .i64 0) M6.1 1 rfl
  have c6_0_2 := Mem.cell (v := .string ⟨#[48, 46, 51]⟩) M6.1 2 rfl
  have c6_0_3 := Mem.cell (v := .string ⟨#[1]⟩) M6.1 3 rfl
  have c6_0_4 := Mem.cell (v := .string ⟨#[]⟩) M6.1 4 rfl
  have z6_0 := Mem.lt M6.1
  have c6_1_0 := Mem.cell (v := .int .i64 1) M6.2.1 0 rfl
  have c6_1_1 := Mem.cell (v := .int .i64 (-65)) M6.2.1 1 rfl
  have c6_1_2 := Mem.cell (v := .string ⟨#[]⟩) M6.2.1 2 rfl
  have c6_1_3 := Mem.cell (v := .string ⟨#[]⟩) M6.2.1 3 rfl
  have c6_1_4 := Mem.cell (v := .string ⟨#[]⟩) M6.2.1 4 rfl
  have z6_1 := Mem.lt M6.2.1
  have c6_2_0 := Mem.cell (v := .int .i64 3) M6.2.2.1 0 rfl
  have c6_2_1 := Mem.cell (v := .int .i64 0) M6.2.2.1 1 rfl
  have c6_2_2 := Mem.cell (v := .string ⟨#[48, 46, 51]⟩) M6.2.2.1 2 rfl
  have c6_2_3 := Mem.cell (v := .string ⟨#[1]⟩) M6.2.2.1 3 rfl
  have c6_2_4 := Mem.cell (v := .string ⟨#[]⟩) M6.2.2.1 4 rfl
  have z6_2 := Mem.lt M6.2.2.1
  go_wp2_with fail
  refine Calls.named ?_
  intro W7 hW7
  have hB7_ : Below w.heap.size w W7 := by rw [hW7]; exact hB6
  have hw7_ : LaidV W7 := by rw [hW7]; exact hw6
  have M7_ := M6
  rw [← hW7] at M7_
  clear hW7
  have ZZ7_0 := Lib.hid (Mem.lt M7_.1)
  have ZZ7_1 := Lib.hid (Mem.lt M7_.2.1)
  have ZZ7_2 := Lib.hid (Mem.lt M7_.2.2.1)
  clear c6_0_0 c6_0_1 c6_0_2 c6_0_3 c6_0_4 z6_0 c6_1_0 c6_1_1 c6_1_2 c6_1_3 c6_1_4 z6_1 c6_2_0 c6_2_1 c6_2_2 c6_2_3 c6_2_4 z6_2
  refine (exTextN _ hw7_).mono ?_
  rintro e w7 ⟨rfl, hb7⟩
  have hB7 := below_then hB7_ hb7
  have hw7 := hw7_.below hb7
  have M7 := M7_.below hb7
  clear M7_ hB7_ hb7 hw7_
  have c7_0_0 := Mem.cell (v := .int .i64 3) M7.1 0 rfl
  have c7_0_1 := Mem.cell (v := .int .i64 0) M7.1 1 rfl
  have c7_0_2 := Mem.cell (v := .string ⟨#[48, 46, 51]⟩) M7.1 2 rfl
  have c7_0_3 := Mem.cell (v := .string ⟨#[1]⟩) M7.1 3 rfl
  have c7_0_4 := Mem.cell (v := .string ⟨#[]⟩) M7.1 4 rfl
  have z7_0 := Mem.lt M7.1
  have c7_1_0 := Mem.cell (v := .int .i64 1) M7.2.1 0 rfl
  have c7_1_1 := Mem.cell (v := .int .i64 (-65)) M7.2.1 1 rfl
  have c7_1_2 := Mem.cell (v := .string ⟨#[]⟩) M7.2.1 2 rfl
  have c7_1_3 := Mem.cell (v := .string ⟨#[]⟩) M7.2.1 3 rfl
  have c7_1_4 := Mem.cell (v := .string ⟨#[]⟩) M7.2.1 4 rfl
  have z7_1 := Mem.lt M7.2.1
  have c7_2_0 := Mem.cell (v := .int .i64 3) M7.2.2.1 0 rfl
  have c7_2_1 := Mem.cell (v := .int .i64 0) M7.2.2.1 1 rfl
  have c7_2_2 := Mem.cell (v := .string ⟨#[48, 46, 51]⟩) M7.2.2.1 2 rfl
  have c7_2_3 := Mem.cell (v := .string ⟨#[1]⟩) M7.2.2.1 3 rfl
  have c7_2_4 := Mem.cell (v := .string ⟨#[]⟩) M7.2.2.1 4 rfl
  have z7_2 := Mem.lt M7.2.2.1
  go_wp2_with fail
  refine Calls.named ?_
  intro W8 hW8
  have hB8_ : Below w.heap.size w W8 := by rw [hW8]; exact hB7
  have hw8_ : LaidV W8 := by rw [hW8]; exact hw7
  have M8_ := M7
  rw [← hW8] at M8_
  clear hW8
  have ZZ8_0 := Lib.hid (Mem.lt M8_.1)
  have ZZ8_1 := Lib.hid (Mem.lt M8_.2.1)
  have ZZ8_2 := Lib.hid (Mem.lt M8_.2.2.1)
  clear c7_0_0 c7_0_1 c7_0_2 c7_0_3 c7_0_4 z7_0 c7_1_0 c7_1_1 c7_1_2 c7_1_3 c7_1_4 z7_1 c7_2_0 c7_2_1 c7_2_2 c7_2_3 c7_2_4 z7_2
  refine (exRightZ _ hw8_).mono ?_
  rintro e w8 ⟨rfl, hb8⟩
  have hB8 := below_then hB8_ hb8
  have hw8 := hw8_.below hb8
  have M8 := M8_.below hb8
  clear M8_ hB8_ hb8 hw8_
  have c8_0_0 := Mem.cell (v := .int .i64 3) M8.1 0 rfl
  have c8_0_1 := Mem.cell (v := .int .i64 0) M8.1 1 rfl
  have c8_0_2 := Mem.cell (v := .string ⟨#[48, 46, 51]⟩) M8.1 2 rfl
  have c8_0_3 := Mem.cell (v := .string ⟨#[1]⟩) M8.1 3 rfl
  have c8_0_4 := Mem.cell (v := .string ⟨#[]⟩) M8.1 4 rfl
  have z8_0 := Mem.lt M8.1
  have c8_1_0 := Mem.cell (v := .int .i64 1) M8.2.1 0 rfl
  have c8_1_1 := Mem.cell (v := .int .i64 (-65)) M8.2.1 1 rfl
  have c8_1_2 := Mem.cell (v := .string ⟨#[]⟩) M8.2.1 2 rfl
  have c8_1_3 := Mem.cell (v := .string ⟨#[]⟩) M8.2.1 3 rfl
  have c8_1_4 := Mem.cell (v := .string ⟨#[]⟩) M8.2.1 4 rfl
  have z8_1 := Mem.lt M8.2.1
  have c8_2_0 := Mem.cell (v := .int .i64 3) M8.2.2.1 0 rfl
  have c8_2_1 := Mem.cell (v := .int .i64 0) M8.2.2.1 1 rfl
  have c8_2_2 := Mem.cell (v := .string ⟨#[48, 46, 51]⟩) M8.2.2.1 2 rfl
  have c8_2_3 := Mem.cell (v := .string ⟨#[1]⟩) M8.2.2.1 3 rfl
  have c8_2_4 := Mem.cell (v := .string ⟨#[]⟩) M8.2.2.1 4 rfl
  have z8_2 := Mem.lt M8.2.2.1
  go_wp2_with fail
  refine Calls.named ?_
  intro W9 hW9
  have hB9_ : Below w.heap.size w W9 := by rw [hW9]; exact hB8
  have hw9_ : LaidV W9 := by rw [hW9]; exact hw8
  have M9_ := M8
  rw [← hW9] at M9_
  clear hW9
  have ZZ9_0 := Lib.hid (Mem.lt M9_.1)
  have ZZ9_1 := Lib.hid (Mem.lt M9_.2.1)
  have ZZ9_2 := Lib.hid (Mem.lt M9_.2.2.1)
  clear c8_0_0 c8_0_1 c8_0_2 c8_0_3 c8_0_4 z8_0 c8_1_0 c8_1_1 c8_1_2 c8_1_3 c8_1_4 z8_1 c8_2_0 c8_2_1 c8_2_2 c8_2_3 c8_2_4 z8_2
  refine (exPutZ _ hw9_).mono ?_
  rintro e w9 ⟨rfl, hb9⟩
  have hB9 := below_then hB9_ hb9
  have hw9 := hw9_.below hb9
  have M9 := M9_.below hb9
  clear M9_ hB9_ hb9 hw9_
  have c9_0_0 := Mem.cell (v := .int .i64 3) M9.1 0 rfl
  have c9_0_1 := Mem.cell (v := .int .i64 0) M9.1 1 rfl
  have c9_0_2 := Mem.cell (v := .string ⟨#[48, 46, 51]⟩) M9.1 2 rfl
  have c9_0_3 := Mem.cell (v := .string ⟨#[1]⟩) M9.1 3 rfl
  have c9_0_4 := Mem.cell (v := .string ⟨#[]⟩) M9.1 4 rfl
  have z9_0 := Mem.lt M9.1
  have c9_1_0 := Mem.cell (v := .int .i64 1) M9.2.1 0 rfl
  have c9_1_1 := Mem.cell (v := .int .i64 (-65)) M9.2.1 1 rfl
  have c9_1_2 := Mem.cell (v := .string ⟨#[]⟩) M9.2.1 2 rfl
  have c9_1_3 := Mem.cell (v := .string ⟨#[]⟩) M9.2.1 3 rfl
  have c9_1_4 := Mem.cell (v := .string ⟨#[]⟩) M9.2.1 4 rfl
  have z9_1 := Mem.lt M9.2.1
  have c9_2_0 := Mem.cell (v := .int .i64 3) M9.2.2.1 0 rfl
  have c9_2_1 := Mem.cell (v := .int .i64 0) M9.2.2.1 1 rfl
  have c9_2_2 := Mem.cell (v := .string ⟨#[48, 46, 51]⟩) M9.2.2.1 2 rfl
  have c9_2_3 := Mem.cell (v := .string ⟨#[1]⟩) M9.2.2.1 3 rfl
  have c9_2_4 := Mem.cell (v := .string ⟨#[]⟩) M9.2.2.1 4 rfl
  have z9_2 := Mem.lt M9.2.2.1
  go_wp2_with fail
  go_ret
  exact ⟨rfl, hB9⟩
end Go.Proofs.YtcgelcccboifjaaDoor
