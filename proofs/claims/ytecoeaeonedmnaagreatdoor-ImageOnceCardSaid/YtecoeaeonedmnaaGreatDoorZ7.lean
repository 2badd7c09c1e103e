/- Val4I, Val5I, Val6I: joined into one text; each part says below what it holds. -/
import Derived.Test.YtecoeaeonedmnaaGreatDoorVal3I
import Derived.Test.YtecoeaeonedmnaaGreatDoorNumGet
/- val.Get. -/
namespace Go.Proofs.YtecoeaeonedmnaaGreatDoor
open Go.RowKit
/-- what Get hands back at a place, out of what stands there -/
def vgetE (r : Option (Vl × Nat)) (a : Nat) : Ending := match r with
  | none => .returned (.tuple #[.agg #[.int .i64 0, .int .i64 0, .string ⟨#[]⟩, .string ⟨#[]⟩, .string ⟨#[]⟩], .int .i64 0, .bool false])
  | some (v, n) => .returned (.tuple #[.agg #[.int .i64 v.k, .int .i64 v.n, .string ⟨v.nm.toArray⟩, .string ⟨v.l.S.toArray⟩, .string ⟨v.l.I.toArray⟩], .int .i64 ((a + n : Nat) : Int), .bool true])
theorem nget_b (s : ByteArray) (a : Int) (w : World) (hs : s.size ≤ 1152921504606846976) :
    Calls Tryz.prog 51 #[.string s, .int .i64 a] w fun e w' => e = getEnd (getR s.data.toList a) ∧ Below w.heap.size w w' := by
  refine (get_any s a w (by unfold maxLen; omega)).mono ?_
  rintro e w' ⟨rfl, rfl⟩
  exact ⟨rfl, Below.refl _ _⟩
set_option maxRecDepth 100000 in
set_option maxHeartbeats 1000000 in
theorem vget_low (s : ByteArray) (a : Int) (w : World) (ha : a < 0) :
    Calls Tryz.prog 29 #[.string s, .int .i64 a] w fun e w' => e = vgetE none 0 ∧ Below w.heap.size w w' := by
  go_enter Tryz.func29, Tryz.ntmps29
  have hB0 := Below.refl w.heap.size w
  have M0 := Mem.nil w
  go_wp2_with fail
  refine bodyPost_ret (v := .tuple #[.agg #[.int .i64 0, .int .i64 0, .string ⟨#[]⟩, .string ⟨#[]⟩, .string ⟨#[]⟩], .int .i64 0, .bool false]) (by simp [results, Tryz.results29, go_sem]) rfl ⟨rfl, below_al hB0 _⟩
set_option maxRecDepth 100000 in
set_option maxHeartbeats 1000000 in
theorem vget_high (s : ByteArray) (a : Nat) (w : World) (_hs : s.size ≤ 1152921504606846976) (ha : (s.size : Int) ≤ a) :
    Calls Tryz.prog 29 #[.string s, .int .i64 a] w fun e w' => e = vgetE none 0 ∧ Below w.heap.size w w' := by
  have h0 : (0 : Int) ≤ a := by omega
  go_enter Tryz.func29, Tryz.ntmps29
  have hB0 := Below.refl w.heap.size w
  have M0 := Mem.nil w
  go_wp2_with fail
  refine bodyPost_ret (v := .tuple #[.agg #[.int .i64 0, .int .i64 0, .string ⟨#[]⟩, .string ⟨#[]⟩, .string ⟨#[]⟩], .int .i64 0, .bool false]) (by simp [results, Tryz.results29, go_sem]) rfl ⟨rfl, below_al hB0 _⟩
set_option maxRecDepth 100000 in
set_option maxHeartbeats 1000000 in
theorem vget1_no (s : ByteArray) (a : Nat) (w : World) (hs : s.size ≤ 1152921504606846976) (ha : a < s.size) (hix : ∀ W, (Instr.index 9 (.string s) (.int .i64 a)).run Tryz.prog W = .ok (.int .u8 1) W) (h_n : ∀ w, Calls Tryz.prog 51 #[.string s, .int .i64 ((a : Int) + 1)] w fun e w' => e = .returned (.tuple #[.int .i64 0, .int .i64 0, .bool false]) ∧ Below w.heap.size w w') :
    Calls Tryz.prog 29 #[.string s, .int .i64 a] w fun e w' => e = vgetE none 0 ∧ Below w.heap.size w w' := by
  have h0 : (0 : Int) ≤ a := by omega
  have h1 : (a : Int) < s.size := by omega
  go_enter Tryz.func29, Tryz.ntmps29
  have hB0 := Below.refl w.heap.size w
  have M0 := Mem.nil w
  go_wp2_with fail
  refine Calls.named ?_
  intro W1 hW1
  have hB1_ : Below w.heap.size w W1 := by rw [hW1]; exact (below_al hB0 _)
  have M1_ := (M0).new' (w.heap.size) (by rfl) (.cells #[.int .i64 1, .int .i64 0, .string ⟨#[]⟩, .string ⟨#[]⟩, .string ⟨#[]⟩] 50)
  rw [← hW1] at M1_
  clear hW1
  have ZZ1_0 := Lib.hid (Mem.lt M1_.1)
  refine (h_n _).mono ?_
  rintro e w1 ⟨rfl, hb1⟩
  have hB1 := below_then hB1_ hb1
  have M1 := M1_.below hb1
  clear M1_ hB1_ hb1
  have c1_0_0 := Mem.cell (v := .int .i64 1) M1.1 0 rfl
  have c1_0_1 := Mem.cell (v := .int .i64 0) M1.1 1 rfl
  have c1_0_2 := Mem.cell (v := .string ⟨#[]⟩) M1.1 2 rfl
  have c1_0_3 := Mem.cell (v := .string ⟨#[]⟩) M1.1 3 rfl
  have c1_0_4 := Mem.cell (v := .string ⟨#[]⟩) M1.1 4 rfl
  have z1_0 := Mem.lt M1.1
  have f1 := fun j => Mem.free M1.1 j
  go_upto_region 17 with (fail)
  have hX1 : (w1.setCells (w.heap.size) 1 [.int .i64 0]).heap[w.heap.size]? = some (.cells #[.int .i64 1, .int .i64 0, .string ⟨#[]⟩, .string ⟨#[]⟩, .string ⟨#[]⟩] 50) := by rw [setCells_block [.int .i64 0] 1 _ _ (M1).1 (by simp)]; rfl
  have hY1 := below_setCells (B := w.heap.size) hB1 (b := w.heap.size) (by have := hB1.size; omega) 1 [.int .i64 0]
  refine wp_named ?_
  intro w2 hW2
  have hB2 : Below w.heap.size w w2 := by rw [hW2]; exact hY1
  have M2 : Mem w2 [(w.heap.size, .cells #[.int .i64 1, .int .i64 0, .string ⟨#[]⟩, .string ⟨#[]⟩, .string ⟨#[]⟩] 50)] := by rw [hW2]; exact ⟨hX1, trivial⟩
  clear c1_0_0 c1_0_1 c1_0_2 c1_0_3 c1_0_4 z1_0
  clear hW2 hX1 hY1
  have c2_0_0 := Mem.cell (v := .int .i64 1) M2.1 0 rfl
  have c2_0_1 := Mem.cell (v := .int .i64 0) M2.1 1 rfl
  have c2_0_2 := Mem.cell (v := .string ⟨#[]⟩) M2.1 2 rfl
  have c2_0_3 := Mem.cell (v := .string ⟨#[]⟩) M2.1 3 rfl
  have c2_0_4 := Mem.cell (v := .string ⟨#[]⟩) M2.1 4 rfl
  have z2_0 := Mem.lt M2.1
  have f2 := fun j => Mem.free M2.1 j
  go_wp2_with fail
  have hX2 := set_block (M2).1 [.int .i64 0, .int .i64 0, .string ⟨#[]⟩, .string ⟨#[]⟩, .string ⟨#[]⟩] rfl
  have hY2 := below_setCells (B := w.heap.size) hB2 (b := w.heap.size) (by have := hB2.size; omega) 0 [.int .i64 0, .int .i64 0, .string ⟨#[]⟩, .string ⟨#[]⟩, .string ⟨#[]⟩]
  obtain ⟨W_e, hW_e⟩ : ∃ W_e, W_e = w2.setCells (w.heap.size) 0 [.int .i64 0, .int .i64 0, .string ⟨#[]⟩, .string ⟨#[]⟩, .string ⟨#[]⟩] := ⟨_, rfl⟩
  rw [← hW_e] at hX2 hY2
  refine at_world hW_e ?_
  have k_0 := Mem.cell (v := .int .i64 0) hX2 0 rfl
  have k_1 := Mem.cell (v := .int .i64 0) hX2 1 rfl
  have k_2 := Mem.cell (v := .string ⟨#[]⟩) hX2 2 rfl
  have k_3 := Mem.cell (v := .string ⟨#[]⟩) hX2 3 rfl
  have k_4 := Mem.cell (v := .string ⟨#[]⟩) hX2 4 rfl
  refine bodyPost_ret (v := .tuple #[.agg #[.int .i64 0, .int .i64 0, .string ⟨#[]⟩, .string ⟨#[]⟩, .string ⟨#[]⟩], .int .i64 0, .bool false]) (by simp [results, Tryz.results29, go_sem, k_0, k_1, k_2, k_3, k_4]) rfl ⟨rfl, hY2⟩
set_option maxRecDepth 100000 in
set_option maxHeartbeats 1000000 in
theorem vget1_yes (s : ByteArray) (a : Nat) (w : World) (hs : s.size ≤ 1152921504606846976) (ha : a < s.size) (hix : ∀ W, (Instr.index 9 (.string s) (.int .i64 a)).run Tryz.prog W = .ok (.int .u8 1) W) (n x : Int) (h_n : ∀ w, Calls Tryz.prog 51 #[.string s, .int .i64 ((a : Int) + 1)] w fun e w' => e = .returned (.tuple #[.int .i64 n, .int .i64 x, .bool true]) ∧ Below w.heap.size w w') :
    Calls Tryz.prog 29 #[.string s, .int .i64 a] w fun e w' => e = .returned (.tuple #[.agg #[.int .i64 1, .int .i64 n, .string ⟨#[]⟩, .string ⟨#[]⟩, .string ⟨#[]⟩], .int .i64 x, .bool true]) ∧ Below w.heap.size w w' := by
  have h0 : (0 : Int) ≤ a := by omega
  have h1 : (a : Int) < s.size := by omega
  go_enter Tryz.func29, Tryz.ntmps29
  have hB0 := Below.refl w.heap.size w
  have M0 := Mem.nil w
  go_wp2_with fail
  refine Calls.named ?_
  intro W1 hW1
  have hB1_ : Below w.heap.size w W1 := by rw [hW1]; exact (below_al hB0 _)
  have M1_ := (M0).new' (w.heap.size) (by rfl) (.cells #[.int .i64 1, .int .i64 0, .string ⟨#[]⟩, .string ⟨#[]⟩, .string ⟨#[]⟩] 50)
  rw [← hW1] at M1_
  clear hW1
  have ZZ1_0 := Lib.hid (Mem.lt M1_.1)
  refine (h_n _).mono ?_
  rintro e w1 ⟨rfl, hb1⟩
  have hB1 := below_then hB1_ hb1
  have M1 := M1_.below hb1
  clear M1_ hB1_ hb1
  have c1_0_0 := Mem.cell (v := .int .i64 1) M1.1 0 rfl
  have c1_0_1 := Mem.cell (v := .int .i64 0) M1.1 1 rfl
  have c1_0_2 := Mem.cell (v := .string ⟨#[]⟩) M1.1 2 rfl
  have c1_0_3 := Mem.cell (v := .string ⟨#[]⟩) M1.1 3 rfl
  have c1_0_4 := Mem.cell (v := .string ⟨#[]⟩) M1.1 4 rfl
  have z1_0 := Mem.lt M1.1
  have f1 := fun j => Mem.free M1.1 j
  go_upto_region 17 with (fail)
  have hX1 : (w1.setCells (w.heap.size) 1 [.int .i64 n]).heap[w.heap.size]? = some (.cells #[.int .i64 1, .int .i64 n, .string ⟨#[]⟩, .string ⟨#[]⟩, .string ⟨#[]⟩] 50) := by rw [setCells_block [.int .i64 n] 1 _ _ (M1).1 (by simp)]; rfl
  have hY1 := below_setCells (B := w.heap.size) hB1 (b := w.heap.size) (by have := hB1.size; omega) 1 [.int .i64 n]
  refine wp_named ?_
  intro w2 hW2
  have hB2 : Below w.heap.size w w2 := by rw [hW2]; exact hY1
  have M2 : Mem w2 [(w.heap.size, .cells #[.int .i64 1, .int .i64 n, .string ⟨#[]⟩, .string ⟨#[]⟩, .string ⟨#[]⟩] 50)] := by rw [hW2]; exact ⟨hX1, trivial⟩
  clear c1_0_0 c1_0_1 c1_0_2 c1_0_3 c1_0_4 z1_0
  clear hW2 hX1 hY1
  have c2_0_0 := Mem.cell (v := .int .i64 1) M2.1 0 rfl
  have c2_0_1 := Mem.cell (v := .int .i64 n) M2.1 1 rfl
  have c2_0_2 := Mem.cell (v := .string ⟨#[]⟩) M2.1 2 rfl
  have c2_0_3 := Mem.cell (v := .string ⟨#[]⟩) M2.1 3 rfl
  have c2_0_4 := Mem.cell (v := .string ⟨#[]⟩) M2.1 4 rfl
  have z2_0 := Mem.lt M2.1
  have f2 := fun j => Mem.free M2.1 j
  go_wp2_with fail
  have hX2 := set_block (M2).1 [.int .i64 1, .int .i64 n, .string ⟨#[]⟩, .string ⟨#[]⟩, .string ⟨#[]⟩] rfl
  have hY2 := below_setCells (B := w.heap.size) hB2 (b := w.heap.size) (by have := hB2.size; omega) 0 [.int .i64 1, .int .i64 n, .string ⟨#[]⟩, .string ⟨#[]⟩, .string ⟨#[]⟩]
  obtain ⟨W_e, hW_e⟩ : ∃ W_e, W_e = w2.setCells (w.heap.size) 0 [.int .i64 1, .int .i64 n, .string ⟨#[]⟩, .string ⟨#[]⟩, .string ⟨#[]⟩] := ⟨_, rfl⟩
  rw [← hW_e] at hX2 hY2
  refine at_world hW_e ?_
  have k_0 := Mem.cell (v := .int .i64 1) hX2 0 rfl
  have k_1 := Mem.cell (v := .int .i64 n) hX2 1 rfl
  have k_2 := Mem.cell (v := .string ⟨#[]⟩) hX2 2 rfl
  have k_3 := Mem.cell (v := .string ⟨#[]⟩) hX2 3 rfl
  have k_4 := Mem.cell (v := .string ⟨#[]⟩) hX2 4 rfl
  refine bodyPost_ret (v := .tuple #[.agg #[.int .i64 1, .int .i64 n, .string ⟨#[]⟩, .string ⟨#[]⟩, .string ⟨#[]⟩], .int .i64 x, .bool true]) (by simp [results, Tryz.results29, go_sem, k_0, k_1, k_2, k_3, k_4]) rfl ⟨rfl, hY2⟩
set_option maxRecDepth 100000 in
set_option maxHeartbeats 1000000 in
theorem vget2_no (s : ByteArray) (a : Nat) (w : World) (hs : s.size ≤ 1152921504606846976) (ha : a < s.size) (hix : ∀ W, (Instr.index 9 (.string s) (.int .i64 a)).run Tryz.prog W = .ok (.int .u8 2) W) (h_l : ∀ w, Calls Tryz.prog 52 #[.string s, .int .i64 ((a : Int) + 1)] w fun e w' => e = .returned (.tuple #[.agg #[.string ⟨#[]⟩, .string ⟨#[]⟩], .int .i64 0, .bool false]) ∧ Below w.heap.size w w') :
    Calls Tryz.prog 29 #[.string s, .int .i64 a] w fun e w' => e = vgetE none 0 ∧ Below w.heap.size w w' := by
  have h0 : (0 : Int) ≤ a := by omega
  have h1 : (a : Int) < s.size := by omega
  go_enter Tryz.func29, Tryz.ntmps29
  have hB0 := Below.refl w.heap.size w
  have M0 := Mem.nil w
  go_wp2_with fail
  refine Calls.named ?_
  intro W1 hW1
  have hB1_ : Below w.heap.size w W1 := by rw [hW1]; exact (below_al hB0 _)
  have M1_ := (M0).new' (w.heap.size) (by rfl) (.cells #[.int .i64 2, .int .i64 0, .string ⟨#[]⟩, .string ⟨#[]⟩, .string ⟨#[]⟩] 50)
  rw [← hW1] at M1_
  clear hW1
  have ZZ1_0 := Lib.hid (Mem.lt M1_.1)
  refine (h_l _).mono ?_
  rintro e w1 ⟨rfl, hb1⟩
  have hB1 := below_then hB1_ hb1
  have M1 := M1_.below hb1
  clear M1_ hB1_ hb1
  have c1_0_0 := Mem.cell (v := .int .i64 2) M1.1 0 rfl
  have c1_0_1 := Mem.cell (v := .int .i64 0) M1.1 1 rfl
  have c1_0_2 := Mem.cell (v := .string ⟨#[]⟩) M1.1 2 rfl
  have c1_0_3 := Mem.cell (v := .string ⟨#[]⟩) M1.1 3 rfl
  have c1_0_4 := Mem.cell (v := .string ⟨#[]⟩) M1.1 4 rfl
  have z1_0 := Mem.lt M1.1
  have f1 := fun j => Mem.free M1.1 j
  go_upto_region 17 with (fail)
  have hX1 : (w1.setCells (w.heap.size) 3 [.string ⟨#[]⟩, .string ⟨#[]⟩]).heap[w.heap.size]? = some (.cells #[.int .i64 2, .int .i64 0, .string ⟨#[]⟩, .string ⟨#[]⟩, .string ⟨#[]⟩] 50) := by rw [setCells_block [.string ⟨#[]⟩, .string ⟨#[]⟩] 3 _ _ (M1).1 (by simp)]; rfl
  have hY1 := below_setCells (B := w.heap.size) hB1 (b := w.heap.size) (by have := hB1.size; omega) 3 [.string ⟨#[]⟩, .string ⟨#[]⟩]
  refine wp_named ?_
  intro w2 hW2
  have hB2 : Below w.heap.size w w2 := by rw [hW2]; exact hY1
  have M2 : Mem w2 [(w.heap.size, .cells #[.int .i64 2, .int .i64 0, .string ⟨#[]⟩, .string ⟨#[]⟩, .string ⟨#[]⟩] 50)] := by rw [hW2]; exact ⟨hX1, trivial⟩
  clear c1_0_0 c1_0_1 c1_0_2 c1_0_3 c1_0_4 z1_0
  clear hW2 hX1 hY1
  have c2_0_0 := Mem.cell (v := .int .i64 2) M2.1 0 rfl
  have c2_0_1 := Mem.cell (v := .int .i64 0) M2.1 1 rfl
  have c2_0_2 := Mem.cell (v := .string ⟨#[]⟩) M2.1 2 rfl
  have c2_0_3 := Mem.cell (v := .string ⟨#[]⟩) M2.1 3 rfl
  have c2_0_4 := Mem.cell (v := .string ⟨#[]⟩) M2.1 4 rfl
  have z2_0 := Mem.lt M2.1
  have f2 := fun j => Mem.free M2.1 j
  go_wp2_with fail
  have hX2 := set_block (M2).1 [.int .i64 0, .int .i64 0, .string ⟨#[]⟩, .string ⟨#[]⟩, .string ⟨#[]⟩] rfl
  have hY2 := below_setCells (B := w.heap.size) hB2 (b := w.heap.size) (by have := hB2.size; omega) 0 [.int .i64 0, .int .i64 0, .string ⟨#[]⟩, .string ⟨#[]⟩, .string ⟨#[]⟩]
  obtain ⟨W_e, hW_e⟩ : ∃ W_e, W_e = w2.setCells (w.heap.size) 0 [.int .i64 0, .int .i64 0, .string ⟨#[]⟩, .string ⟨#[]⟩, .string ⟨#[]⟩] := ⟨_, rfl⟩
  rw [← hW_e] at hX2 hY2
  refine at_world hW_e ?_
  have k_0 := Mem.cell (v := .int .i64 0) hX2 0 rfl
  have k_1 := Mem.cell (v := .int .i64 0) hX2 1 rfl
  have k_2 := Mem.cell (v := .string ⟨#[]⟩) hX2 2 rfl
  have k_3 := Mem.cell (v := .string ⟨#[]⟩) hX2 3 rfl
  have k_4 := Mem.cell (v := .string ⟨#[]⟩) hX2 4 rfl
  refine bodyPost_ret (v := .tuple #[.agg #[.int .i64 0, .int .i64 0, .string ⟨#[]⟩, .string ⟨#[]⟩, .string ⟨#[]⟩], .int .i64 0, .bool false]) (by simp [results, Tryz.results29, go_sem, k_0, k_1, k_2, k_3, k_4]) rfl ⟨rfl, hY2⟩
set_option maxRecDepth 100000 in
set_option maxHeartbeats 1000000 in
theorem vget2_yes (s : ByteArray) (a : Nat) (w : World) (hs : s.size ≤ 1152921504606846976) (ha : a < s.size) (hix : ∀ W, (Instr.index 9 (.string s) (.int .i64 a)).run Tryz.prog W = .ok (.int .u8 2) W) (S I : ByteArray) (x : Int) (h_l : ∀ w, Calls Tryz.prog 52 #[.string s, .int .i64 ((a : Int) + 1)] w fun e w' => e = .returned (.tuple #[.agg #[.string S, .string I], .int .i64 x, .bool true]) ∧ Below w.heap.size w w') :
    Calls Tryz.prog 29 #[.string s, .int .i64 a] w fun e w' => e = .returned (.tuple #[.agg #[.int .i64 2, .int .i64 0, .string ⟨#[]⟩, .string S, .string I], .int .i64 x, .bool true]) ∧ Below w.heap.size w w' := by
  have h0 : (0 : Int) ≤ a := by omega
  have h1 : (a : Int) < s.size := by omega
  go_enter Tryz.func29, Tryz.ntmps29
  have hB0 := Below.refl w.heap.size w
  have M0 := Mem.nil w
  go_wp2_with fail
  refine Calls.named ?_
  intro W1 hW1
  have hB1_ : Below w.heap.size w W1 := by rw [hW1]; exact (below_al hB0 _)
  have M1_ := (M0).new' (w.heap.size) (by rfl) (.cells #[.int .i64 2, .int .i64 0, .string ⟨#[]⟩, .string ⟨#[]⟩, .string ⟨#[]⟩] 50)
  rw [← hW1] at M1_
  clear hW1
  have ZZ1_0 := Lib.hid (Mem.lt M1_.1)
  refine (h_l _).mono ?_
  rintro e w1 ⟨rfl, hb1⟩
  have hB1 := below_then hB1_ hb1
  have M1 := M1_.below hb1
  clear M1_ hB1_ hb1
  have c1_0_0 := Mem.cell (v := .int .i64 2) M1.1 0 rfl
  have c1_0_1 := Mem.cell (v := .int .i64 0) M1.1 1 rfl
  have c1_0_2 := Mem.cell (v := .string ⟨#[]⟩) M1.1 2 rfl
  have c1_0_3 := Mem.cell (v := .string ⟨#[]⟩) M1.1 3 rfl
  have c1_0_4 := Mem.cell (v := .string ⟨#[]⟩) M1.1 4 rfl
  have z1_0 := Mem.lt M1.1
  have f1 := fun j => Mem.free M1.1 j
  go_upto_region 17 with (fail)
  have hX1 : (w1.setCells (w.heap.size) 3 [.string S, .string I]).heap[w.heap.size]? = some (.cells #[.int .i64 2, .int .i64 0, .string ⟨#[]⟩, .string S, .string I] 50) := by rw [setCells_block [.string S, .string I] 3 _ _ (M1).1 (by simp)]; rfl
  have hY1 := below_setCells (B := w.heap.size) hB1 (b := w.heap.size) (by have := hB1.size; omega) 3 [.string S, .string I]
  refine wp_named ?_
  intro w2 hW2
  have hB2 : Below w.heap.size w w2 := by rw [hW2]; exact hY1
  have M2 : Mem w2 [(w.heap.size, .cells #[.int .i64 2, .int .i64 0, .string ⟨#[]⟩, .string S, .string I] 50)] := by rw [hW2]; exact ⟨hX1, trivial⟩
  clear c1_0_0 c1_0_1 c1_0_2 c1_0_3 c1_0_4 z1_0
  clear hW2 hX1 hY1
  have c2_0_0 := Mem.cell (v := .int .i64 2) M2.1 0 rfl
  have c2_0_1 := Mem.cell (v := .int .i64 0) M2.1 1 rfl
  have c2_0_2 := Mem.cell (v := .string ⟨#[]⟩) M2.1 2 rfl
  have c2_0_3 := Mem.cell (v := .string S) M2.1 3 rfl
  have c2_0_4 := Mem.cell (v := .string I) M2.1 4 rfl
  have z2_0 := Mem.lt M2.1
  have f2 := fun j => Mem.free M2.1 j
  go_wp2_with fail
  have hX2 := set_block (M2).1 [.int .i64 2, .int .i64 0, .string ⟨#[]⟩, .string S, .string I] rfl
  have hY2 := below_setCells (B := w.heap.size) hB2 (b := w.heap.size) (by have := hB2.size; omega) 0 [.int .i64 2, .int .i64 0, .string ⟨#[]⟩, .string S, .string I]
  obtain ⟨W_e, hW_e⟩ : ∃ W_e, W_e = w2.setCells (w.heap.size) 0 [.int .i64 2, .int .i64 0, .string ⟨#[]⟩, .string S, .string I] := ⟨_, rfl⟩
  rw [← hW_e] at hX2 hY2
  refine at_world hW_e ?_
  have k_0 := Mem.cell (v := .int .i64 2) hX2 0 rfl
  have k_1 := Mem.cell (v := .int .i64 0) hX2 1 rfl
  have k_2 := Mem.cell (v := .string ⟨#[]⟩) hX2 2 rfl
  have k_3 := Mem.cell (v := .string S) hX2 3 rfl
  have k_4 := Mem.cell (v := .string I) hX2 4 rfl
  refine bodyPost_ret (v := .tuple #[.agg #[.int .i64 2, .int .i64 0, .string ⟨#[]⟩, .string S, .string I], .int .i64 x, .bool true]) (by simp [results, Tryz.results29, go_sem, k_0, k_1, k_2, k_3, k_4]) rfl ⟨rfl, hY2⟩
end Go.Proofs.YtecoeaeonedmnaaGreatDoor
/- val.Get at the kinds 3 to 7 (printed by gen_valget.py). -/
namespace Go.Proofs.YtecoeaeonedmnaaGreatDoor
open Go.RowKit
set_option maxRecDepth 100000 in
set_option maxHeartbeats 1000000 in
theorem vget3_no (s : ByteArray) (a : Nat) (w : World) (hw : LaidV w) (hs : s.size ≤ 1152921504606846976) (ha : a < s.size) (hix : ∀ W, (Instr.index 9 (.string s) (.int .i64 a)).run Tryz.prog W = .ok (.int .u8 3) W) (h_g : ∀ w, LaidV w → Calls Tryz.prog 53 #[.string s, .int .i64 ((a : Int) + 1)] w fun e w' => e = .returned (.tuple #[.string ⟨#[]⟩, .int .i64 0, .bool false]) ∧ Below w.heap.size w w') :
    Calls Tryz.prog 29 #[.string s, .int .i64 a] w fun e w' => e = vgetE none 0 ∧ Below w.heap.size w w' := by
  have h0 : (0 : Int) ≤ a := by omega
  have h1 : (a : Int) < s.size := by omega
  go_enter Tryz.func29, Tryz.ntmps29
  have hB0 := Below.refl w.heap.size w
  have M0 := Mem.nil w
  have hw0 := hw
  go_wp2_with fail
  refine Calls.named ?_
  intro W1 hW1
  have hB1_ : Below w.heap.size w W1 := by rw [hW1]; exact (below_al hB0 _)
  have hw1_ : LaidV W1 := by rw [hW1]; exact (hw.alloc _)
  have M1_ := (M0).new' (w.heap.size) (by rfl) (.cells #[.int .i64 3, .int .i64 0, .string ⟨#[]⟩, .string ⟨#[]⟩, .string ⟨#[]⟩] 50)
  rw [← hW1] at M1_
  clear hW1
  have ZZ1_0 := Lib.hid (Mem.lt M1_.1)
  refine (h_g _ hw1_).mono ?_
  rintro e w1 ⟨rfl, hb1⟩
  have hB1 := below_then hB1_ hb1
  have hw1 := hw1_.below hb1
  have M1 := M1_.below hb1
  clear M1_ hB1_ hb1 hw1_
  have c1_0_0 := Mem.cell (v := .int .i64 3) M1.1 0 rfl
  have c1_0_1 := Mem.cell (v := .int .i64 0) M1.1 1 rfl
  have c1_0_2 := Mem.cell (v := .string ⟨#[]⟩) M1.1 2 rfl
  have c1_0_3 := Mem.cell (v := .string ⟨#[]⟩) M1.1 3 rfl
  have c1_0_4 := Mem.cell (v := .string ⟨#[]⟩) M1.1 4 rfl
  have z1_0 := Mem.lt M1.1
  have f1 := fun j => Mem.free M1.1 j
  go_upto_region 15 with (fail)
  have hX1 : (w1.setCells (w.heap.size) 2 [.string ⟨#[]⟩]).heap[w.heap.size]? = some (.cells #[.int .i64 3, .int .i64 0, .string ⟨#[]⟩, .string ⟨#[]⟩, .string ⟨#[]⟩] 50) := by rw [setCells_block [.string ⟨#[]⟩] 2 _ _ (M1).1 (by simp)]; rfl
  have hY1 := below_setCells (B := w.heap.size) hB1 (b := w.heap.size) (by have := hB1.size; omega) 2 [.string ⟨#[]⟩]
  refine wp_named ?_
  intro w2 hW2
  have hB2 : Below w.heap.size w w2 := by rw [hW2]; exact hY1
  have hw2 : LaidV w2 := hw0.below hB2
  have M2 : Mem w2 [(w.heap.size, .cells #[.int .i64 3, .int .i64 0, .string ⟨#[]⟩, .string ⟨#[]⟩, .string ⟨#[]⟩] 50)] := by rw [hW2]; exact ⟨hX1, trivial⟩
  clear c1_0_0 c1_0_1 c1_0_2 c1_0_3 c1_0_4 z1_0
  clear hW2 hX1 hY1
  have c2_0_0 := Mem.cell (v := .int .i64 3) M2.1 0 rfl
  have c2_0_1 := Mem.cell (v := .int .i64 0) M2.1 1 rfl
  have c2_0_2 := Mem.cell (v := .string ⟨#[]⟩) M2.1 2 rfl
  have c2_0_3 := Mem.cell (v := .string ⟨#[]⟩) M2.1 3 rfl
  have c2_0_4 := Mem.cell (v := .string ⟨#[]⟩) M2.1 4 rfl
  have z2_0 := Mem.lt M2.1
  have f2 := fun j => Mem.free M2.1 j
  go_wp2_with fail
  have hX2 := set_block (M2).1 [.int .i64 0, .int .i64 0, .string ⟨#[]⟩, .string ⟨#[]⟩, .string ⟨#[]⟩] rfl
  have hY2 := below_setCells (B := w.heap.size) hB2 (b := w.heap.size) (by have := hB2.size; omega) 0 [.int .i64 0, .int .i64 0, .string ⟨#[]⟩, .string ⟨#[]⟩, .string ⟨#[]⟩]
  obtain ⟨W_e, hW_e⟩ : ∃ W_e, W_e = w2.setCells (w.heap.size) 0 [.int .i64 0, .int .i64 0, .string ⟨#[]⟩, .string ⟨#[]⟩, .string ⟨#[]⟩] := ⟨_, rfl⟩
  rw [← hW_e] at hX2 hY2
  refine at_world hW_e ?_
  have k_0 := Mem.cell (v := .int .i64 0) hX2 0 rfl
  have k_1 := Mem.cell (v := .int .i64 0) hX2 1 rfl
  have k_2 := Mem.cell (v := .string ⟨#[]⟩) hX2 2 rfl
  have k_3 := Mem.cell (v := .string ⟨#[]⟩) hX2 3 rfl
  have k_4 := Mem.cell (v := .string ⟨#[]⟩) hX2 4 rfl
  refine bodyPost_ret (v := .tuple #[.agg #[.int .i64 0, .int .i64 0, .string ⟨#[]⟩, .string ⟨#[]⟩, .string ⟨#[]⟩], .int .i64 0, .bool false]) (by simp [results, Tryz.results29, go_sem, k_0, k_1, k_2, k_3, k_4]) rfl ⟨rfl, hY2⟩
set_option maxRecDepth 100000 in
set_option maxHeartbeats 1000000 in
theorem vget3_no2 (s : ByteArray) (a : Nat) (w : World) (hw : LaidV w) (hs : s.size ≤ 1152921504606846976) (ha : a < s.size) (hix : ∀ W, (Instr.index 9 (.string s) (.int .i64 a)).run Tryz.prog W = .ok (.int .u8 3) W) (m : ByteArray) (x : Nat) (h_g : ∀ w, LaidV w → Calls Tryz.prog 53 #[.string s, .int .i64 ((a : Int) + 1)] w fun e w' => e = .returned (.tuple #[.string m, .int .i64 x, .bool true]) ∧ Below w.heap.size w w') (h_l : ∀ w, Calls Tryz.prog 52 #[.string s, .int .i64 (x : Int)] w fun e w' => e = .returned (.tuple #[.agg #[.string ⟨#[]⟩, .string ⟨#[]⟩], .int .i64 0, .bool false]) ∧ Below w.heap.size w w') :
    Calls Tryz.prog 29 #[.string s, .int .i64 a] w fun e w' => e = vgetE none 0 ∧ Below w.heap.size w w' := by
  have h0 : (0 : Int) ≤ a := by omega
  have h1 : (a : Int) < s.size := by omega
  go_enter Tryz.func29, Tryz.ntmps29
  have hB0 := Below.refl w.heap.size w
  have M0 := Mem.nil w
  have hw0 := hw
  go_wp2_with fail
  refine Calls.named ?_
  intro W1 hW1
  have hB1_ : Below w.heap.size w W1 := by rw [hW1]; exact (below_al hB0 _)
  have hw1_ : LaidV W1 := by rw [hW1]; exact (hw.alloc _)
  have M1_ := (M0).new' (w.heap.size) (by rfl) (.cells #[.int .i64 3, .int .i64 0, .string ⟨#[]⟩, .string ⟨#[]⟩, .string ⟨#[]⟩] 50)
  rw [← hW1] at M1_
  clear hW1
  have ZZ1_0 := Lib.hid (Mem.lt M1_.1)
  refine (h_g _ hw1_).mono ?_
  rintro e w1 ⟨rfl, hb1⟩
  have hB1 := below_then hB1_ hb1
  have hw1 := hw1_.below hb1
  have M1 := M1_.below hb1
  clear M1_ hB1_ hb1 hw1_
  have c1_0_0 := Mem.cell (v := .int .i64 3) M1.1 0 rfl
  have c1_0_1 := Mem.cell (v := .int .i64 0) M1.1 1 rfl
  have c1_0_2 := Mem.cell (v := .string ⟨#[]⟩) M1.1 2 rfl
  have c1_0_3 := Mem.cell (v := .string ⟨#[]⟩) M1.1 3 rfl
  have c1_0_4 := Mem.cell (v := .string ⟨#[]⟩) M1.1 4 rfl
  have z1_0 := Mem.lt M1.1
  have f1 := fun j => Mem.free M1.1 j
  go_upto_region 15 with (fail)
  have hX1 : (w1.setCells (w.heap.size) 2 [.string m]).heap[w.heap.size]? = some (.cells #[.int .i64 3, .int .i64 0, .string m, .string ⟨#[]⟩, .string ⟨#[]⟩] 50) := by rw [setCells_block [.string m] 2 _ _ (M1).1 (by simp)]; rfl
  have hY1 := below_setCells (B := w.heap.size) hB1 (b := w.heap.size) (by have := hB1.size; omega) 2 [.string m]
  refine wp_named ?_
  intro w2 hW2
  have hB2 : Below w.heap.size w w2 := by rw [hW2]; exact hY1
  have hw2 : LaidV w2 := hw0.below hB2
  have M2 : Mem w2 [(w.heap.size, .cells #[.int .i64 3, .int .i64 0, .string m, .string ⟨#[]⟩, .string ⟨#[]⟩] 50)] := by rw [hW2]; exact ⟨hX1, trivial⟩
  clear c1_0_0 c1_0_1 c1_0_2 c1_0_3 c1_0_4 z1_0
  clear hW2 hX1 hY1
  have c2_0_0 := Mem.cell (v := .int .i64 3) M2.1 0 rfl
  have c2_0_1 := Mem.cell (v := .int .i64 0) M2.1 1 rfl
  have c2_0_2 := Mem.cell (v := .string m) M2.1 2 rfl
  have c2_0_3 := Mem.cell (v := .string ⟨#[]⟩) M2.1 3 rfl
  have c2_0_4 := Mem.cell (v := .string ⟨#[]⟩) M2.1 4 rfl
  have z2_0 := Mem.lt M2.1
  go_wp2_with fail
  refine Calls.named ?_
  intro W3 hW3
  have hB3_ : Below w.heap.size w W3 := by rw [hW3]; exact hB2
  have hw3_ : LaidV W3 := by rw [hW3]; exact hw2
  have M3_ := M2
  rw [← hW3] at M3_
  clear hW3
  have ZZ3_0 := Lib.hid (Mem.lt M3_.1)
  clear c2_0_0 c2_0_1 c2_0_2 c2_0_3 c2_0_4 z2_0
  refine (h_l _).mono ?_
  rintro e w3 ⟨rfl, hb3⟩
  have hB3 := below_then hB3_ hb3
  have hw3 := hw3_.below hb3
  have M3 := M3_.below hb3
  clear M3_ hB3_ hb3 hw3_
  have c3_0_0 := Mem.cell (v := .int .i64 3) M3.1 0 rfl
  have c3_0_1 := Mem.cell (v := .int .i64 0) M3.1 1 rfl
  have c3_0_2 := Mem.cell (v := .string m) M3.1 2 rfl
  have c3_0_3 := Mem.cell (v := .string ⟨#[]⟩) M3.1 3 rfl
  have c3_0_4 := Mem.cell (v := .string ⟨#[]⟩) M3.1 4 rfl
  have z3_0 := Mem.lt M3.1
  have f3 := fun j => Mem.free M3.1 j
  go_upto_region 17 with (fail)
  have hX3 : (w3.setCells (w.heap.size) 3 [.string ⟨#[]⟩, .string ⟨#[]⟩]).heap[w.heap.size]? = some (.cells #[.int .i64 3, .int .i64 0, .string m, .string ⟨#[]⟩, .string ⟨#[]⟩] 50) := by rw [setCells_block [.string ⟨#[]⟩, .string ⟨#[]⟩] 3 _ _ (M3).1 (by simp)]; rfl
  have hY3 := below_setCells (B := w.heap.size) hB3 (b := w.heap.size) (by have := hB3.size; omega) 3 [.string ⟨#[]⟩, .string ⟨#[]⟩]
  refine wp_named ?_
  intro w4 hW4
  have hB4 : Below w.heap.size w w4 := by rw [hW4]; exact hY3
  have hw4 : LaidV w4 := hw0.below hB4
  have M4 : Mem w4 [(w.heap.size, .cells #[.int .i64 3, .int .i64 0, .string m, .string ⟨#[]⟩, .string ⟨#[]⟩] 50)] := by rw [hW4]; exact ⟨hX3, trivial⟩
  clear c3_0_0 c3_0_1 c3_0_2 c3_0_3 c3_0_4 z3_0
  clear hW4 hX3 hY3
  have c4_0_0 := Mem.cell (v := .int .i64 3) M4.1 0 rfl
  have c4_0_1 := Mem.cell (v := .int .i64 0) M4.1 1 rfl
  have c4_0_2 := Mem.cell (v := .string m) M4.1 2 rfl
  have c4_0_3 := Mem.cell (v := .string ⟨#[]⟩) M4.1 3 rfl
  have c4_0_4 := Mem.cell (v := .string ⟨#[]⟩) M4.1 4 rfl
  have z4_0 := Mem.lt M4.1
  have f4 := fun j => Mem.free M4.1 j
  go_wp2_with fail
  have hX4 := set_block (M4).1 [.int .i64 0, .int .i64 0, .string ⟨#[]⟩, .string ⟨#[]⟩, .string ⟨#[]⟩] rfl
  have hY4 := below_setCells (B := w.heap.size) hB4 (b := w.heap.size) (by have := hB4.size; omega) 0 [.int .i64 0, .int .i64 0, .string ⟨#[]⟩, .string ⟨#[]⟩, .string ⟨#[]⟩]
  obtain ⟨W_e, hW_e⟩ : ∃ W_e, W_e = w4.setCells (w.heap.size) 0 [.int .i64 0, .int .i64 0, .string ⟨#[]⟩, .string ⟨#[]⟩, .string ⟨#[]⟩] := ⟨_, rfl⟩
  rw [← hW_e] at hX4 hY4
  refine at_world hW_e ?_
  have k_0 := Mem.cell (v := .int .i64 0) hX4 0 rfl
  have k_1 := Mem.cell (v := .int .i64 0) hX4 1 rfl
  have k_2 := Mem.cell (v := .string ⟨#[]⟩) hX4 2 rfl
  have k_3 := Mem.cell (v := .string ⟨#[]⟩) hX4 3 rfl
  have k_4 := Mem.cell (v := .string ⟨#[]⟩) hX4 4 rfl
  refine bodyPost_ret (v := .tuple #[.agg #[.int .i64 0, .int .i64 0, .string ⟨#[]⟩, .string ⟨#[]⟩, .string ⟨#[]⟩], .int .i64 0, .bool false]) (by simp [results, Tryz.results29, go_sem, k_0, k_1, k_2, k_3, k_4]) rfl ⟨rfl, hY4⟩
set_option maxRecDepth 100000 in
set_option maxHeartbeats 1000000 in
theorem vget3_yes (s : ByteArray) (a : Nat) (w : World) (hw : LaidV w) (hs : s.size ≤ 1152921504606846976) (ha : a < s.size) (hix : ∀ W, (Instr.index 9 (.string s) (.int .i64 a)).run Tryz.prog W = .ok (.int .u8 3) W) (m S I : ByteArray) (x : Nat) (y : Int) (h_g : ∀ w, LaidV w → Calls Tryz.prog 53 #[.string s, .int .i64 ((a : Int) + 1)] w fun e w' => e = .returned (.tuple #[.string m, .int .i64 x, .bool true]) ∧ Below w.heap.size w w') (h_l : ∀ w, Calls Tryz.prog 52 #[.string s, .int .i64 (x : Int)] w fun e w' => e = .returned (.tuple #[.agg #[.string S, .string I], .int .i64 y, .bool true]) ∧ Below w.heap.size w w') :
    Calls Tryz.prog 29 #[.string s, .int .i64 a] w fun e w' => e = .returned (.tuple #[.agg #[.int .i64 3, .int .i64 0, .string m, .string S, .string I], .int .i64 y, .bool true]) ∧ Below w.heap.size w w' := by
  have h0 : (0 : Int) ≤ a := by omega
  have h1 : (a : Int) < s.size := by omega
  go_enter Tryz.func29, Tryz.ntmps29
  have hB0 := Below.refl w.heap.size w
  have M0 := Mem.nil w
  have hw0 := hw
  go_wp2_with fail
  refine Calls.named ?_
  intro W1 hW1
  have hB1_ : Below w.heap.size w W1 := by rw [hW1]; exact (below_al hB0 _)
  have hw1_ : LaidV W1 := by rw [hW1]; exact (hw.alloc _)
  have M1_ := (M0).new' (w.heap.size) (by rfl) (.cells #[.int .i64 3, .int .i64 0, .string ⟨#[]⟩, .string ⟨#[]⟩, .string ⟨#[]⟩] 50)
  rw [← hW1] at M1_
  clear hW1
  have ZZ1_0 := Lib.hid (Mem.lt M1_.1)
  refine (h_g _ hw1_).mono ?_
  rintro e w1 ⟨rfl, hb1⟩
  have hB1 := below_then hB1_ hb1
  have hw1 := hw1_.below hb1
  have M1 := M1_.below hb1
  clear M1_ hB1_ hb1 hw1_
  have c1_0_0 := Mem.cell (v := .int .i64 3) M1.1 0 rfl
  have c1_0_1 := Mem.cell (v := .int .i64 0) M1.1 1 rfl
  have c1_0_2 := Mem.cell (v := .string ⟨#[]⟩) M1.1 2 rfl
  have c1_0_3 := Mem.cell (v := .string ⟨#[]⟩) M1.1 3 rfl
  have c1_0_4 := Mem.cell (v := .string ⟨#[]⟩) M1.1 4 rfl
  have z1_0 := Mem.lt M1.1
  have f1 := fun j => Mem.free M1.1 j
  go_upto_region 15 with (fail)
  have hX1 : (w1.setCells (w.heap.size) 2 [.string m]).heap[w.heap.size]? = some (.cells #[.int .i64 3, .int .i64 0, .string m, .string ⟨#[]⟩, .string ⟨#[]⟩] 50) := by rw [setCells_block [.string m] 2 _ _ (M1).1 (by simp)]; rfl
  have hY1 := below_setCells (B := w.heap.size) hB1 (b := w.heap.size) (by have := hB1.size; omega) 2 [.string m]
  refine wp_named ?_
  intro w2 hW2
  have hB2 : Below w.heap.size w w2 := by rw [hW2]; exact hY1
  have hw2 : LaidV w2 := hw0.below hB2
  have M2 : Mem w2 [(w.heap.size, .cells #[.int .i64 3, .int .i64 0, .string m, .string ⟨#[]⟩, .string ⟨#[]⟩] 50)] := by rw [hW2]; exact ⟨hX1, trivial⟩
  clear c1_0_0 c1_0_1 c1_0_2 c1_0_3 c1_0_4 z1_0
  clear hW2 hX1 hY1
  have c2_0_0 := Mem.cell (v := .int .i64 3) M2.1 0 rfl
  have c2_0_1 := Mem.cell (v := .int .i64 0) M2.1 1 rfl
  have c2_0_2 := Mem.cell (v := .string m) M2.1 2 rfl
  have c2_0_3 := Mem.cell (v := .string ⟨#[]⟩) M2.1 3 rfl
  have c2_0_4 := Mem.cell (v := .string ⟨#[]⟩) M2.1 4 rfl
  have z2_0 := Mem.lt M2.1
  go_wp2_with fail
  refine Calls.named ?_
  intro W3 hW3
  have hB3_ : Below w.heap.size w W3 := by rw [hW3]; exact hB2
  have hw3_ : LaidV W3 := by rw [hW3]; exact hw2
  have M3_ := M2
  rw [← hW3] at M3_
  clear hW3
  have ZZ3_0 := Lib.hid (Mem.lt M3_.1)
  clear c2_0_0 c2_0_1 c2_0_2 c2_0_3 c2_0_4 z2_0
  refine (h_l _).mono ?_
  rintro e w3 ⟨rfl, hb3⟩
  have hB3 := below_then hB3_ hb3
  have hw3 := hw3_.below hb3
  have M3 := M3_.below hb3
  clear M3_ hB3_ hb3 hw3_
  have c3_0_0 := Mem.cell (v := .int .i64 3) M3.1 0 rfl
  have c3_0_1 := Mem.cell (v := .int .i64 0) M3.1 1 rfl
  have c3_0_2 := Mem.cell (v := .string m) M3.1 2 rfl
  have c3_0_3 := Mem.cell (v := .string ⟨#[]⟩) M3.1 3 rfl
  have c3_0_4 := Mem.cell (v := .string ⟨#[]⟩) M3.1 4 rfl
  have z3_0 := Mem.lt M3.1
  have f3 := fun j => Mem.free M3.1 j
  go_upto_region 17 with (fail)
  have hX3 : (w3.setCells (w.heap.size) 3 [.string S, .string I]).heap[w.heap.size]? = some (.cells #[.int .i64 3, .int .i64 0, .string m, .string S, .string I] 50) := by rw [setCells_block [.string S, .string I] 3 _ _ (M3).1 (by simp)]; rfl
  have hY3 := below_setCells (B := w.heap.size) hB3 (b := w.heap.size) (by have := hB3.size; omega) 3 [.string S, .string I]
  refine wp_named ?_
  intro w4 hW4
  have hB4 : Below w.heap.size w w4 := by rw [hW4]; exact hY3
  have hw4 : LaidV w4 := hw0.below hB4
  have M4 : Mem w4 [(w.heap.size, .cells #[.int .i64 3, .int .i64 0, .string m, .string S, .string I] 50)] := by rw [hW4]; exact ⟨hX3, trivial⟩
  clear c3_0_0 c3_0_1 c3_0_2 c3_0_3 c3_0_4 z3_0
  clear hW4 hX3 hY3
  have c4_0_0 := Mem.cell (v := .int .i64 3) M4.1 0 rfl
  have c4_0_1 := Mem.cell (v := .int .i64 0) M4.1 1 rfl
  have c4_0_2 := Mem.cell (v := .string m) M4.1 2 rfl
  have c4_0_3 := Mem.cell (v := .string S) M4.1 3 rfl
  have c4_0_4 := Mem.cell (v := .string I) M4.1 4 rfl
  have z4_0 := Mem.lt M4.1
  have f4 := fun j => Mem.free M4.1 j
  go_wp2_with fail
  have hX4 := set_block (M4).1 [.int .i64 3, .int .i64 0, .string m, .string S, .string I] rfl
  have hY4 := below_setCells (B := w.heap.size) hB4 (b := w.heap.size) (by have := hB4.size; omega) 0 [.int .i64 3, .int .i64 0, .string m, .string S, .string I]
  obtain ⟨W_e, hW_e⟩ : ∃ W_e, W_e = w4.setCells (w.heap.size) 0 [.int .i64 3, .int .i64 0, .string m, .string S, .string I] := ⟨_, rfl⟩
  rw [← hW_e] at hX4 hY4
  refine at_world hW_e ?_
  have k_0 := Mem.cell (v := .int .i64 3) hX4 0 rfl
  have k_1 := Mem.cell (v := .int .i64 0) hX4 1 rfl
  have k_2 := Mem.cell (v := .string m) hX4 2 rfl
  have k_3 := Mem.cell (v := .string S) hX4 3 rfl
  have k_4 := Mem.cell (v := .string I) hX4 4 rfl
  refine bodyPost_ret (v := .tuple #[.agg #[.int .i64 3, .int .i64 0, .string m, .string S, .string I], .int .i64 y, .bool true]) (by simp [results, Tryz.results29, go_sem, k_0, k_1, k_2, k_3, k_4]) rfl ⟨rfl, hY4⟩
set_option maxRecDepth 100000 in
set_option maxHeartbeats 1000000 in
theorem vget4_no (s : ByteArray) (a : Nat) (w : World) (hw : LaidV w) (hs : s.size ≤ 1152921504606846976) (ha : a < s.size) (hix : ∀ W, (Instr.index 9 (.string s) (.int .i64 a)).run Tryz.prog W = .ok (.int .u8 4) W) (h_g : ∀ w, LaidV w → Calls Tryz.prog 53 #[.string s, .int .i64 ((a : Int) + 1)] w fun e w' => e = .returned (.tuple #[.string ⟨#[]⟩, .int .i64 0, .bool false]) ∧ Below w.heap.size w w') :
    Calls Tryz.prog 29 #[.string s, .int .i64 a] w fun e w' => e = vgetE none 0 ∧ Below w.heap.size w w' := by
  have h0 : (0 : Int) ≤ a := by omega
  have h1 : (a : Int) < s.size := by omega
  go_enter Tryz.func29, Tryz.ntmps29
  have hB0 := Below.refl w.heap.size w
  have M0 := Mem.nil w
  have hw0 := hw
  go_wp2_with fail
  refine Calls.named ?_
  intro W1 hW1
  have hB1_ : Below w.heap.size w W1 := by rw [hW1]; exact (below_al hB0 _)
  have hw1_ : LaidV W1 := by rw [hW1]; exact (hw.alloc _)
  have M1_ := (M0).new' (w.heap.size) (by rfl) (.cells #[.int .i64 4, .int .i64 0, .string ⟨#[]⟩, .string ⟨#[]⟩, .string ⟨#[]⟩] 50)
  rw [← hW1] at M1_
  clear hW1
  have ZZ1_0 := Lib.hid (Mem.lt M1_.1)
  refine (h_g _ hw1_).mono ?_
  rintro e w1 ⟨rfl, hb1⟩
  have hB1 := below_then hB1_ hb1
  have hw1 := hw1_.below hb1
  have M1 := M1_.below hb1
  clear M1_ hB1_ hb1 hw1_
  have c1_0_0 := Mem.cell (v := .int .i64 4) M1.1 0 rfl
  have c1_0_1 := Mem.cell (v := .int .i64 0) M1.1 1 rfl
  have c1_0_2 := Mem.cell (v := .string ⟨#[]⟩) M1.1 2 rfl
  have c1_0_3 := Mem.cell (v := .string ⟨#[]⟩) M1.1 3 rfl
  have c1_0_4 := Mem.cell (v := .string ⟨#[]⟩) M1.1 4 rfl
  have z1_0 := Mem.lt M1.1
  have f1 := fun j => Mem.free M1.1 j
  go_upto_region 15 with (fail)
  have hX1 : (w1.setCells (w.heap.size) 2 [.string ⟨#[]⟩]).heap[w.heap.size]? = some (.cells #[.int .i64 4, .int .i64 0, .string ⟨#[]⟩, .string ⟨#[]⟩, .string ⟨#[]⟩] 50) := by rw [setCells_block [.string ⟨#[]⟩] 2 _ _ (M1).1 (by simp)]; rfl
  have hY1 := below_setCells (B := w.heap.size) hB1 (b := w.heap.size) (by have := hB1.size; omega) 2 [.string ⟨#[]⟩]
  refine wp_named ?_
  intro w2 hW2
  have hB2 : Below w.heap.size w w2 := by rw [hW2]; exact hY1
  have hw2 : LaidV w2 := hw0.below hB2
  have M2 : Mem w2 [(w.heap.size, .cells #[.int .i64 4, .int .i64 0, .string ⟨#[]⟩, .string ⟨#[]⟩, .string ⟨#[]⟩] 50)] := by rw [hW2]; exact ⟨hX1, trivial⟩
  clear c1_0_0 c1_0_1 c1_0_2 c1_0_3 c1_0_4 z1_0
  clear hW2 hX1 hY1
  have c2_0_0 := Mem.cell (v := .int .i64 4) M2.1 0 rfl
  have c2_0_1 := Mem.cell (v := .int .i64 0) M2.1 1 rfl
  have c2_0_2 := Mem.cell (v := .string ⟨#[]⟩) M2.1 2 rfl
  have c2_0_3 := Mem.cell (v := .string ⟨#[]⟩) M2.1 3 rfl
  have c2_0_4 := Mem.cell (v := .string ⟨#[]⟩) M2.1 4 rfl
  have z2_0 := Mem.lt M2.1
  have f2 := fun j => Mem.free M2.1 j
  go_wp2_with fail
  have hX2 := set_block (M2).1 [.int .i64 0, .int .i64 0, .string ⟨#[]⟩, .string ⟨#[]⟩, .string ⟨#[]⟩] rfl
  have hY2 := below_setCells (B := w.heap.size) hB2 (b := w.heap.size) (by have := hB2.size; omega) 0 [.int .i64 0, .int .i64 0, .string ⟨#[]⟩, .string ⟨#[]⟩, .string ⟨#[]⟩]
  obtain ⟨W_e, hW_e⟩ : ∃ W_e, W_e = w2.setCells (w.heap.size) 0 [.int .i64 0, .int .i64 0, .string ⟨#[]⟩, .string ⟨#[]⟩, .string ⟨#[]⟩] := ⟨_, rfl⟩
  rw [← hW_e] at hX2 hY2
  refine at_world hW_e ?_
  have k_0 := Mem.cell (v := .int .i64 0) hX2 0 rfl
  have k_1 := Mem.cell (v := .int .i64 0) hX2 1 rfl
  have k_2 := Mem.cell (v := .string ⟨#[]⟩) hX2 2 rfl
  have k_3 := Mem.cell (v := .string ⟨#[]⟩) hX2 3 rfl
  have k_4 := Mem.cell (v := .string ⟨#[]⟩) hX2 4 rfl
  refine bodyPost_ret (v := .tuple #[.agg #[.int .i64 0, .int .i64 0, .string ⟨#[]⟩, .string ⟨#[]⟩, .string ⟨#[]⟩], .int .i64 0, .bool false]) (by simp [results, Tryz.results29, go_sem, k_0, k_1, k_2, k_3, k_4]) rfl ⟨rfl, hY2⟩
set_option maxRecDepth 100000 in
set_option maxHeartbeats 1000000 in
theorem vget4_no2 (s : ByteArray) (a : Nat) (w : World) (hw : LaidV w) (hs : s.size ≤ 1152921504606846976) (ha : a < s.size) (hix : ∀ W, (Instr.index 9 (.string s) (.int .i64 a)).run Tryz.prog W = .ok (.int .u8 4) W) (m : ByteArray) (x : Nat) (h_g : ∀ w, LaidV w → Calls Tryz.prog 53 #[.string s, .int .i64 ((a : Int) + 1)] w fun e w' => e = .returned (.tuple #[.string m, .int .i64 x, .bool true]) ∧ Below w.heap.size w w') (h_l : ∀ w, Calls Tryz.prog 52 #[.string s, .int .i64 (x : Int)] w fun e w' => e = .returned (.tuple #[.agg #[.string ⟨#[]⟩, .string ⟨#[]⟩], .int .i64 0, .bool false]) ∧ Below w.heap.size w w') :
    Calls Tryz.prog 29 #[.string s, .int .i64 a] w fun e w' => e = vgetE none 0 ∧ Below w.heap.size w w' := by
  have h0 : (0 : Int) ≤ a := by omega
  have h1 : (a : Int) < s.size := by omega
  go_enter Tryz.func29, Tryz.ntmps29
  have hB0 := Below.refl w.heap.size w
  have M0 := Mem.nil w
  have hw0 := hw
  go_wp2_with fail
  refine Calls.named ?_
  intro W1 hW1
  have hB1_ : Below w.heap.size w W1 := by rw [hW1]; exact (below_al hB0 _)
  have hw1_ : LaidV W1 := by rw [hW1]; exact (hw.alloc _)
  have M1_ := (M0).new' (w.heap.size) (by rfl) (.cells #[.int .i64 4, .int .i64 0, .string ⟨#[]⟩, .string ⟨#[]⟩, .string ⟨#[]⟩] 50)
  rw [← hW1] at M1_
  clear hW1
  have ZZ1_0 := Lib.hid (Mem.lt M1_.1)
  refine (h_g _ hw1_).mono ?_
  rintro e w1 ⟨rfl, hb1⟩
  have hB1 := below_then hB1_ hb1
  have hw1 := hw1_.below hb1
  have M1 := M1_.below hb1
  clear M1_ hB1_ hb1 hw1_
  have c1_0_0 := Mem.cell (v := .int .i64 4) M1.1 0 rfl
  have c1_0_1 := Mem.cell (v := .int .i64 0) M1.1 1 rfl
  have c1_0_2 := Mem.cell (v := .string ⟨#[]⟩) M1.1 2 rfl
  have c1_0_3 := Mem.cell (v := .string ⟨#[]⟩) M1.1 3 rfl
  have c1_0_4 := Mem.cell (v := .string ⟨#[]⟩) M1.1 4 rfl
  have z1_0 := Mem.lt M1.1
  have f1 := fun j => Mem.free M1.1 j
  go_upto_region 15 with (fail)
  have hX1 : (w1.setCells (w.heap.size) 2 [.string m]).heap[w.heap.size]? = some (.cells #[.int .i64 4, .int .i64 0, .string m, .string ⟨#[]⟩, .string ⟨#[]⟩] 50) := by rw [setCells_block [.string m] 2 _ _ (M1).1 (by simp)]; rfl
  have hY1 := below_setCells (B := w.heap.size) hB1 (b := w.heap.size) (by have := hB1.size; omega) 2 [.string m]
  refine wp_named ?_
  intro w2 hW2
  have hB2 : Below w.heap.size w w2 := by rw [hW2]; exact hY1
  have hw2 : LaidV w2 := hw0.below hB2
  have M2 : Mem w2 [(w.heap.size, .cells #[.int .i64 4, .int .i64 0, .string m, .string ⟨#[]⟩, .string ⟨#[]⟩] 50)] := by rw [hW2]; exact ⟨hX1, trivial⟩
  clear c1_0_0 c1_0_1 c1_0_2 c1_0_3 c1_0_4 z1_0
  clear hW2 hX1 hY1
  have c2_0_0 := Mem.cell (v := .int .i64 4) M2.1 0 rfl
  have c2_0_1 := Mem.cell (v := .int .i64 0) M2.1 1 rfl
  have c2_0_2 := Mem.cell (v := .string m) M2.1 2 rfl
  have c2_0_3 := Mem.cell (v := .string ⟨#[]⟩) M2.1 3 rfl
  have c2_0_4 := Mem.cell (v := .string ⟨#[]⟩) M2.1 4 rfl
  have z2_0 := Mem.lt M2.1
  go_wp2_with fail
  refine Calls.named ?_
  intro W3 hW3
  have hB3_ : Below w.heap.size w W3 := by rw [hW3]; exact hB2
  have hw3_ : LaidV W3 := by rw [hW3]; exact hw2
  have M3_ := M2
  rw [← hW3] at M3_
  clear hW3
  have ZZ3_0 := Lib.hid (Mem.lt M3_.1)
  clear c2_0_0 c2_0_1 c2_0_2 c2_0_3 c2_0_4 z2_0
  refine (h_l _).mono ?_
  rintro e w3 ⟨rfl, hb3⟩
  have hB3 := below_then hB3_ hb3
  have hw3 := hw3_.below hb3
  have M3 := M3_.below hb3
  clear M3_ hB3_ hb3 hw3_
  have c3_0_0 := Mem.cell (v := .int .i64 4) M3.1 0 rfl
  have c3_0_1 := Mem.cell (v := .int .i64 0) M3.1 1 rfl
  have c3_0_2 := Mem.cell (v := .string m) M3.1 2 rfl
  have c3_0_3 := Mem.cell (v := .string ⟨#[]⟩) M3.1 3 rfl
  have c3_0_4 := Mem.cell (v := .string ⟨#[]⟩) M3.1 4 rfl
  have z3_0 := Mem.lt M3.1
  have f3 := fun j => Mem.free M3.1 j
  go_upto_region 17 with (fail)
  have hX3 : (w3.setCells (w.heap.size) 3 [.string ⟨#[]⟩, .string ⟨#[]⟩]).heap[w.heap.size]? = some (.cells #[.int .i64 4, .int .i64 0, .string m, .string ⟨#[]⟩, .string ⟨#[]⟩] 50) := by rw [setCells_block [.string ⟨#[]⟩, .string ⟨#[]⟩] 3 _ _ (M3).1 (by simp)]; rfl
  have hY3 := below_setCells (B := w.heap.size) hB3 (b := w.heap.size) (by have := hB3.size; omega) 3 [.string ⟨#[]⟩, .string ⟨#[]⟩]
  refine wp_named ?_
  intro w4 hW4
  have hB4 : Below w.heap.size w w4 := by rw [hW4]; exact hY3
  have hw4 : LaidV w4 := hw0.below hB4
  have M4 : Mem w4 [(w.heap.size, .cells #[.int .i64 4, .int .i64 0, .string m, .string ⟨#[]⟩, .string ⟨#[]⟩] 50)] := by rw [hW4]; exact ⟨hX3, trivial⟩
  clear c3_0_0 c3_0_1 c3_0_2 c3_0_3 c3_0_4 z3_0
  clear hW4 hX3 hY3
  have c4_0_0 := Mem.cell (v := .int .i64 4) M4.1 0 rfl
  have c4_0_1 := Mem.cell (v := .int .i64 0) M4.1 1 rfl
  have c4_0_2 := Mem.cell (v := .string m) M4.1 2 rfl
  have c4_0_3 := Mem.cell (v := .string ⟨#[]⟩) M4.1 3 rfl
  have c4_0_4 := Mem.cell (v := .string ⟨#[]⟩) M4.1 4 rfl
  have z4_0 := Mem.lt M4.1
  have f4 := fun j => Mem.free M4.1 j
  go_wp2_with fail
  have hX4 := set_block (M4).1 [.int .i64 0, .int .i64 0, .string ⟨#[]⟩, .string ⟨#[]⟩, .string ⟨#[]⟩] rfl
  have hY4 := below_setCells (B := w.heap.size) hB4 (b := w.heap.size) (by have := hB4.size; omega) 0 [.int .i64 0, .int .i64 0, .string ⟨#[]⟩, .string ⟨#[]⟩, .string ⟨#[]⟩]
  obtain ⟨W_e, hW_e⟩ : ∃ W_e, W_e = w4.setCells (w.heap.size) 0 [.int .i64 0, .int .i64 0, .string ⟨#[]⟩, .string ⟨#[]⟩, .string ⟨#[]⟩] := ⟨_, rfl⟩
  rw [← hW_e] at hX4 hY4
  refine at_world hW_e ?_
  have k_0 := Mem.cell (v := .int .i64 0) hX4 0 rfl
  have k_1 := Mem.cell (v := .int .i64 0) hX4 1 rfl
  have k_2 := Mem.cell (v := .string ⟨#[]⟩) hX4 2 rfl
  have k_3 := Mem.cell (v := .string ⟨#[]⟩) hX4 3 rfl
  have k_4 := Mem.cell (v := .string ⟨#[]⟩) hX4 4 rfl
  refine bodyPost_ret (v := .tuple #[.agg #[.int .i64 0, .int .i64 0, .string ⟨#[]⟩, .string ⟨#[]⟩, .string ⟨#[]⟩], .int .i64 0, .bool false]) (by simp [results, Tryz.results29, go_sem, k_0, k_1, k_2, k_3, k_4]) rfl ⟨rfl, hY4⟩
set_option maxRecDepth 100000 in
set_option maxHeartbeats 1000000 in
theorem vget4_yes (s : ByteArray) (a : Nat) (w : World) (hw : LaidV w) (hs : s.size ≤ 1152921504606846976) (ha : a < s.size) (hix : ∀ W, (Instr.index 9 (.string s) (.int .i64 a)).run Tryz.prog W = .ok (.int .u8 4) W) (m S I : ByteArray) (x : Nat) (y : Int) (h_g : ∀ w, LaidV w → Calls Tryz.prog 53 #[.string s, .int .i64 ((a : Int) + 1)] w fun e w' => e = .returned (.tuple #[.string m, .int .i64 x, .bool true]) ∧ Below w.heap.size w w') (h_l : ∀ w, Calls Tryz.prog 52 #[.string s, .int .i64 (x : Int)] w fun e w' => e = .returned (.tuple #[.agg #[.string S, .string I], .int .i64 y, .bool true]) ∧ Below w.heap.size w w') :
    Calls Tryz.prog 29 #[.string s, .int .i64 a] w fun e w' => e = .returned (.tuple #[.agg #[.int .i64 4, .int .i64 0, .string m, .string S, .string I], .int .i64 y, .bool true]) ∧ Below w.heap.size w w' := by
  have h0 : (0 : Int) ≤ a := by omega
  have h1 : (a : Int) < s.size := by omega
  go_enter Tryz.func29, Tryz.ntmps29
  have hB0 := Below.refl w.heap.size w
  have M0 := Mem.nil w
  have hw0 := hw
  go_wp2_with fail
  refine Calls.named ?_
  intro W1 hW1
  have hB1_ : Below w.heap.size w W1 := by rw [hW1]; exact (below_al hB0 _)
  have hw1_ : LaidV W1 := by rw [hW1]; exact (hw.alloc _)
  have M1_ := (M0).new' (w.heap.size) (by rfl) (.cells #[.int .i64 4, .int .i64 0, .string ⟨#[]⟩, .string ⟨#[]⟩, .string ⟨#[]⟩] 50)
  rw [← hW1] at M1_
  clear hW1
  have ZZ1_0 := Lib.hid (Mem.lt M1_.1)
  refine (h_g _ hw1_).mono ?_
  rintro e w1 ⟨rfl, hb1⟩
  have hB1 := below_then hB1_ hb1
  have hw1 := hw1_.below hb1
  have M1 := M1_.below hb1
  clear M1_ hB1_ hb1 hw1_
  have c1_0_0 := Mem.cell (v := .int .i64 4) M1.1 0 rfl
  have c1_0_1 := Mem.cell (v := .int .i64 0) M1.1 1 rfl
  have c1_0_2 := Mem.cell (v := .string ⟨#[]⟩) M1.1 2 rfl
  have c1_0_3 := Mem.cell (v := .string ⟨#[]⟩) M1.1 3 rfl
  have c1_0_4 := Mem.cell (v := .string ⟨#[]⟩) M1.1 4 rfl
  have z1_0 := Mem.lt M1.1
  have f1 := fun j => Mem.free M1.1 j
  go_upto_region 15 with (fail)
  have hX1 : (w1.setCells (w.heap.size) 2 [.string m]).heap[w.heap.size]? = some (.cells #[.int .i64 4, .int .i64 0, .string m, .string ⟨#[]⟩, .string ⟨#[]⟩] 50) := by rw [setCells_block [.string m] 2 _ _ (M1).1 (by simp)]; rfl
  have hY1 := below_setCells (B := w.heap.size) hB1 (b := w.heap.size) (by have := hB1.size; omega) 2 [.string m]
  refine wp_named ?_
  intro w2 hW2
  have hB2 : Below w.heap.size w w2 := by rw [hW2]; exact hY1
  have hw2 : LaidV w2 := hw0.below hB2
  have M2 : Mem w2 [(w.heap.size, .cells #[.int .i64 4, .int .i64 0, .string m, .string ⟨#[]⟩, .string ⟨#[]⟩] 50)] := by rw [hW2]; exact ⟨hX1, trivial⟩
  clear c1_0_0 c1_0_1 c1_0_2 c1_0_3 c1_0_4 z1_0
  clear hW2 hX1 hY1
  have c2_0_0 := Mem.cell (v := .int .i64 4) M2.1 0 rfl
  have c2_0_1 := Mem.cell (v := .int .i64 0) M2.1 1 rfl
  have c2_0_2 := Mem.cell (v := .string m) M2.1 2 rfl
  have c2_0_3 := Mem.cell (v := .string ⟨#[]⟩) M2.1 3 rfl
  have c2_0_4 := Mem.cell (v := .string ⟨#[]⟩) M2.1 4 rfl
  have z2_0 := Mem.lt M2.1
  go_wp2_with fail
  refine Calls.named ?_
  intro W3 hW3
  have hB3_ : Below w.heap.size w W3 := by rw [hW3]; exact hB2
  have hw3_ : LaidV W3 := by rw [hW3]; exact hw2
  have M3_ := M2
  rw [← hW3] at M3_
  clear hW3
  have ZZ3_0 := Lib.hid (Mem.lt M3_.1)
  clear c2_0_0 c2_0_1 c2_0_2 c2_0_3 c2_0_4 z2_0
  refine (h_l _).mono ?_
  rintro e w3 ⟨rfl, hb3⟩
  have hB3 := below_then hB3_ hb3
  have hw3 := hw3_.below hb3
  have M3 := M3_.below hb3
  clear M3_ hB3_ hb3 hw3_
  have c3_0_0 := Mem.cell (v := .int .i64 4) M3.1 0 rfl
  have c3_0_1 := Mem.cell (v := .int .i64 0) M3.1 1 rfl
  have c3_0_2 := Mem.cell (v := .string m) M3.1 2 rfl
  have c3_0_3 := Mem.cell (v := .string ⟨#[]⟩) M3.1 3 rfl
  have c3_0_4 := Mem.cell (v := .string ⟨#[]⟩) M3.1 4 rfl
  have z3_0 := Mem.lt M3.1
  have f3 := fun j => Mem.free M3.1 j
  go_upto_region 17 with (fail)
  have hX3 : (w3.setCells (w.heap.size) 3 [.string S, .string I]).heap[w.heap.size]? = some (.cells #[.int .i64 4, .int .i64 0, .string m, .string S, .string I] 50) := by rw [setCells_block [.string S, .string I] 3 _ _ (M3).1 (by simp)]; rfl
  have hY3 := below_setCells (B := w.heap.size) hB3 (b := w.heap.size) (by have := hB3.size; omega) 3 [.string S, .string I]
  refine wp_named ?_
  intro w4 hW4
  have hB4 : Below w.heap.size w w4 := by rw [hW4]; exact hY3
  have hw4 : LaidV w4 := hw0.below hB4
  have M4 : Mem w4 [(w.heap.size, .cells #[.int .i64 4, .int .i64 0, .string m, .string S, .string I] 50)] := by rw [hW4]; exact ⟨hX3, trivial⟩
  clear c3_0_0 c3_0_1 c3_0_2 c3_0_3 c3_0_4 z3_0
  clear hW4 hX3 hY3
  have c4_0_0 := Mem.cell (v := .int .i64 4) M4.1 0 rfl
  have c4_0_1 := Mem.cell (v := .int .i64 0) M4.1 1 rfl
  have c4_0_2 := Mem.cell (v := .string m) M4.1 2 rfl
  have c4_0_3 := Mem.cell (v := .string S) M4.1 3 rfl
  have c4_0_4 := Mem.cell (v := .string I) M4.1 4 rfl
  have z4_0 := Mem.lt M4.1
  have f4 := fun j => Mem.free M4.1 j
  go_wp2_with fail
  have hX4 := set_block (M4).1 [.int .i64 4, .int .i64 0, .string m, .string S, .string I] rfl
  have hY4 := below_setCells (B := w.heap.size) hB4 (b := w.heap.size) (by have := hB4.size; omega) 0 [.int .i64 4, .int .i64 0, .string m, .string S, .string I]
  obtain ⟨W_e, hW_e⟩ : ∃ W_e, W_e = w4.setCells (w.heap.size) 0 [.int .i64 4, .int .i64 0, .string m, .string S, .string I] := ⟨_, rfl⟩
  rw [← hW_e] at hX4 hY4
  refine at_world hW_e ?_
  have k_0 := Mem.cell (v := .int .i64 4) hX4 0 rfl
  have k_1 := Mem.cell (v := .int .i64 0) hX4 1 rfl
  have k_2 := Mem.cell (v := .string m) hX4 2 rfl
  have k_3 := Mem.cell (v := .string S) hX4 3 rfl
  have k_4 := Mem.cell (v := .string I) hX4 4 rfl
  refine bodyPost_ret (v := .tuple #[.agg #[.int .i64 4, .int .i64 0, .string m, .string S, .string I], .int .i64 y, .bool true]) (by simp [results, Tryz.results29, go_sem, k_0, k_1, k_2, k_3, k_4]) rfl ⟨rfl, hY4⟩
set_option maxRecDepth 100000 in
set_option maxHeartbeats 1000000 in
theorem vget5_no (s : ByteArray) (a : Nat) (w : World) (hw : LaidV w) (hs : s.size ≤ 1152921504606846976) (ha : a < s.size) (hix : ∀ W, (Instr.index 9 (.string s) (.int .i64 a)).run Tryz.prog W = .ok (.int .u8 5) W) (h_g : ∀ w, LaidV w → Calls Tryz.prog 53 #[.string s, .int .i64 ((a : Int) + 1)] w fun e w' => e = .returned (.tuple #[.string ⟨#[]⟩, .int .i64 0, .bool false]) ∧ Below w.heap.size w w') :
    Calls Tryz.prog 29 #[.string s, .int .i64 a] w fun e w' => e = vgetE none 0 ∧ Below w.heap.size w w' := by
  have h0 : (0 : Int) ≤ a := by omega
  have h1 : (a : Int) < s.size := by omega
  go_enter Tryz.func29, Tryz.ntmps29
  have hB0 := Below.refl w.heap.size w
  have M0 := Mem.nil w
  have hw0 := hw
  go_wp2_with fail
  refine Calls.named ?_
  intro W1 hW1
  have hB1_ : Below w.heap.size w W1 := by rw [hW1]; exact (below_al hB0 _)
  have hw1_ : LaidV W1 := by rw [hW1]; exact (hw.alloc _)
  have M1_ := (M0).new' (w.heap.size) (by rfl) (.cells #[.int .i64 5, .int .i64 0, .string ⟨#[]⟩, .string ⟨#[]⟩, .string ⟨#[]⟩] 50)
  rw [← hW1] at M1_
  clear hW1
  have ZZ1_0 := Lib.hid (Mem.lt M1_.1)
  refine (h_g _ hw1_).mono ?_
  rintro e w1 ⟨rfl, hb1⟩
  have hB1 := below_then hB1_ hb1
  have hw1 := hw1_.below hb1
  have M1 := M1_.below hb1
  clear M1_ hB1_ hb1 hw1_
  have c1_0_0 := Mem.cell (v := .int .i64 5) M1.1 0 rfl
  have c1_0_1 := Mem.cell (v := .int .i64 0) M1.1 1 rfl
  have c1_0_2 := Mem.cell (v := .string ⟨#[]⟩) M1.1 2 rfl
  have c1_0_3 := Mem.cell (v := .string ⟨#[]⟩) M1.1 3 rfl
  have c1_0_4 := Mem.cell (v := .string ⟨#[]⟩) M1.1 4 rfl
  have z1_0 := Mem.lt M1.1
  have f1 := fun j => Mem.free M1.1 j
  go_upto_region 15 with (fail)
  have hX1 : (w1.setCells (w.heap.size) 2 [.string ⟨#[]⟩]).heap[w.heap.size]? = some (.cells #[.int .i64 5, .int .i64 0, .string ⟨#[]⟩, .string ⟨#[]⟩, .string ⟨#[]⟩] 50) := by rw [setCells_block [.string ⟨#[]⟩] 2 _ _ (M1).1 (by simp)]; rfl
  have hY1 := below_setCells (B := w.heap.size) hB1 (b := w.heap.size) (by have := hB1.size; omega) 2 [.string ⟨#[]⟩]
  refine wp_named ?_
  intro w2 hW2
  have hB2 : Below w.heap.size w w2 := by rw [hW2]; exact hY1
  have hw2 : LaidV w2 := hw0.below hB2
  have M2 : Mem w2 [(w.heap.size, .cells #[.int .i64 5, .int .i64 0, .string ⟨#[]⟩, .string ⟨#[]⟩, .string ⟨#[]⟩] 50)] := by rw [hW2]; exact ⟨hX1, trivial⟩
  clear c1_0_0 c1_0_1 c1_0_2 c1_0_3 c1_0_4 z1_0
  clear hW2 hX1 hY1
  have c2_0_0 := Mem.cell (v := .int .i64 5) M2.1 0 rfl
  have c2_0_1 := Mem.cell (v := .int .i64 0) M2.1 1 rfl
  have c2_0_2 := Mem.cell (v := .string ⟨#[]⟩) M2.1 2 rfl
  have c2_0_3 := Mem.cell (v := .string ⟨#[]⟩) M2.1 3 rfl
  have c2_0_4 := Mem.cell (v := .string ⟨#[]⟩) M2.1 4 rfl
  have z2_0 := Mem.lt M2.1
  have f2 := fun j => Mem.free M2.1 j
  go_wp2_with fail
  have hX2 := set_block (M2).1 [.int .i64 0, .int .i64 0, .string ⟨#[]⟩, .string ⟨#[]⟩, .string ⟨#[]⟩] rfl
  have hY2 := below_setCells (B := w.heap.size) hB2 (b := w.heap.size) (by have := hB2.size; omega) 0 [.int .i64 0, .int .i64 0, .string ⟨#[]⟩, .string ⟨#[]⟩, .string ⟨#[]⟩]
  obtain ⟨W_e, hW_e⟩ : ∃ W_e, W_e = w2.setCells (w.heap.size) 0 [.int .i64 0, .int .i64 0, .string ⟨#[]⟩, .string ⟨#[]⟩, .string ⟨#[]⟩] := ⟨_, rfl⟩
  rw [← hW_e] at hX2 hY2
  refine at_world hW_e ?_
  have k_0 := Mem.cell (v := .int .i64 0) hX2 0 rfl
  have k_1 := Mem.cell (v := .int .i64 0) hX2 1 rfl
  have k_2 := Mem.cell (v := .string ⟨#[]⟩) hX2 2 rfl
  have k_3 := Mem.cell (v := .string ⟨#[]⟩) hX2 3 rfl
  have k_4 := Mem.cell (v := .string ⟨#[]⟩) hX2 4 rfl
  refine bodyPost_ret (v := .tuple #[.agg #[.int .i64 0, .int .i64 0, .string ⟨#[]⟩, .string ⟨#[]⟩, .string ⟨#[]⟩], .int .i64 0, .bool false]) (by simp [results, Tryz.results29, go_sem, k_0, k_1, k_2, k_3, k_4]) rfl ⟨rfl, hY2⟩
set_option maxRecDepth 100000 in
set_option maxHeartbeats 1000000 in
theorem vget5_no2 (s : ByteArray) (a : Nat) (w : World) (hw : LaidV w) (hs : s.size ≤ 1152921504606846976) (ha : a < s.size) (hix : ∀ W, (Instr.index 9 (.string s) (.int .i64 a)).run Tryz.prog W = .ok (.int .u8 5) W) (m : ByteArray) (x : Nat) (h_g : ∀ w, LaidV w → Calls Tryz.prog 53 #[.string s, .int .i64 ((a : Int) + 1)] w fun e w' => e = .returned (.tuple #[.string m, .int .i64 x, .bool true]) ∧ Below w.heap.size w w') (h_l : ∀ w, Calls Tryz.prog 52 #[.string s, .int .i64 (x : Int)] w fun e w' => e = .returned (.tuple #[.agg #[.string ⟨#[]⟩, .string ⟨#[]⟩], .int .i64 0, .bool false]) ∧ Below w.heap.size w w') :
    Calls Tryz.prog 29 #[.string s, .int .i64 a] w fun e w' => e = vgetE none 0 ∧ Below w.heap.size w w' := by
  have h0 : (0 : Int) ≤ a := by omega
  have h1 : (a : Int) < s.size := by omega
  go_enter Tryz.func29, Tryz.ntmps29
  have hB0 := Below.refl w.heap.size w
  have M0 := Mem.nil w
  have hw0 := hw
  go_wp2_with fail
  refine Calls.named ?_
  intro W1 hW1
  have hB1_ : Below w.heap.size w W1 := by rw [hW1]; exact (below_al hB0 _)
  have hw1_ : LaidV W1 := by rw [hW1]; exact (hw.alloc _)
  have M1_ := (M0).new' (w.heap.size) (by rfl) (.cells #[.int .i64 5, .int .i64 0, .string ⟨#[]⟩, .string ⟨#[]⟩, .string ⟨#[]⟩] 50)
  rw [← hW1] at M1_
  clear hW1
  have ZZ1_0 := Lib.hid (Mem.lt M1_.1)
  refine (h_g _ hw1_).mono ?_
  rintro e w1 ⟨rfl, hb1⟩
  have hB1 := below_then hB1_ hb1
  have hw1 := hw1_.below hb1
  have M1 := M1_.below hb1
  clear M1_ hB1_ hb1 hw1_
  have c1_0_0 := Mem.cell (v := .int .i64 5) M1.1 0 rfl
  have c1_0_1 := Mem.cell (v := .int .i64 0) M1.1 1 rfl
  have c1_0_2 := Mem.cell (v := .string ⟨#[]⟩) M1.1 2 rfl
  have c1_0_3 := Mem.cell (v := .string ⟨#[]⟩) M1.1 3 rfl
  have c1_0_4 := Mem.cell (v := .string ⟨#[]⟩) M1.1 4 rfl
  have z1_0 := Mem.lt M1.1
  have f1 := fun j => Mem.free M1.1 j
  go_upto_region 15 with (fail)
  have hX1 : (w1.setCells (w.heap.size) 2 [.string m]).heap[w.heap.size]? = some (.cells #[.int .i64 5, .int .i64 0, .string m, .string ⟨#[]⟩, .string ⟨#[]⟩] 50) := by rw [setCells_block [.string m] 2 _ _ (M1).1 (by simp)]; rfl
  have hY1 := below_setCells (B := w.heap.size) hB1 (b := w.heap.size) (by have := hB1.size; omega) 2 [.string m]
  refine wp_named ?_
  intro w2 hW2
  have hB2 : Below w.heap.size w w2 := by rw [hW2]; exact hY1
  have hw2 : LaidV w2 := hw0.below hB2
  have M2 : Mem w2 [(w.heap.size, .cells #[.int .i64 5, .int .i64 0, .string m, .string ⟨#[]⟩, .string ⟨#[]⟩] 50)] := by rw [hW2]; exact ⟨hX1, trivial⟩
  clear c1_0_0 c1_0_1 c1_0_2 c1_0_3 c1_0_4 z1_0
  clear hW2 hX1 hY1
  have c2_0_0 := Mem.cell (v := .int .i64 5) M2.1 0 rfl
  have c2_0_1 := Mem.cell (v := .int .i64 0) M2.1 1 rfl
  have c2_0_2 := Mem.cell (v := .string m) M2.1 2 rfl
  have c2_0_3 := Mem.cell (v := .string ⟨#[]⟩) M2.1 3 rfl
  have c2_0_4 := Mem.cell (v := .string ⟨#[]⟩) M2.1 4 rfl
  have z2_0 := Mem.lt M2.1
  go_wp2_with fail
  refine Calls.named ?_
  intro W3 hW3
  have hB3_ : Below w.heap.size w W3 := by rw [hW3]; exact hB2
  have hw3_ : LaidV W3 := by rw [hW3]; exact hw2
  have M3_ := M2
  rw [← hW3] at M3_
  clear hW3
  have ZZ3_0 := Lib.hid (Mem.lt M3_.1)
  clear c2_0_0 c2_0_1 c2_0_2 c2_0_3 c2_0_4 z2_0
  refine (h_l _).mono ?_
  rintro e w3 ⟨rfl, hb3⟩
  have hB3 := below_then hB3_ hb3
  have hw3 := hw3_.below hb3
  have M3 := M3_.below hb3
  clear M3_ hB3_ hb3 hw3_
  have c3_0_0 := Mem.cell (v := .int .i64 5) M3.1 0 rfl
  have c3_0_1 := Mem.cell (v := .int .i64 0) M3.1 1 rfl
  have c3_0_2 := Mem.cell (v := .string m) M3.1 2 rfl
  have c3_0_3 := Mem.cell (v := .string ⟨#[]⟩) M3.1 3 rfl
  have c3_0_4 := Mem.cell (v := .string ⟨#[]⟩) M3.1 4 rfl
  have z3_0 := Mem.lt M3.1
  have f3 := fun j => Mem.free M3.1 j
  go_upto_region 17 with (fail)
  have hX3 : (w3.setCells (w.heap.size) 3 [.string ⟨#[]⟩, .string ⟨#[]⟩]).heap[w.heap.size]? = some (.cells #[.int .i64 5, .int .i64 0, .string m, .string ⟨#[]⟩, .string ⟨#[]⟩] 50) := by rw [setCells_block [.string ⟨#[]⟩, .string ⟨#[]⟩] 3 _ _ (M3).1 (by simp)]; rfl
  have hY3 := below_setCells (B := w.heap.size) hB3 (b := w.heap.size) (by have := hB3.size; omega) 3 [.string ⟨#[]⟩, .string ⟨#[]⟩]
  refine wp_named ?_
  intro w4 hW4
  have hB4 : Below w.heap.size w w4 := by rw [hW4]; exact hY3
  have hw4 : LaidV w4 := hw0.below hB4
  have M4 : Mem w4 [(w.heap.size, .cells #[.int .i64 5, .int .i64 0, .string m, .string ⟨#[]⟩, .string ⟨#[]⟩] 50)] := by rw [hW4]; exact ⟨hX3, trivial⟩
  clear c3_0_0 c3_0_1 c3_0_2 c3_0_3 c3_0_4 z3_0
  clear hW4 hX3 hY3
  have c4_0_0 := Mem.cell (v := .int .i64 5) M4.1 0 rfl
  have c4_0_1 := Mem.cell (v := .int .i64 0) M4.1 1 rfl
  have c4_0_2 := Mem.cell (v := .string m) M4.1 2 rfl
  have c4_0_3 := Mem.cell (v := .string ⟨#[]⟩) M4.1 3 rfl
  have c4_0_4 := Mem.cell (v := .string ⟨#[]⟩) M4.1 4 rfl
  have z4_0 := Mem.lt M4.1
  have f4 := fun j => Mem.free M4.1 j
  go_wp2_with fail
  have hX4 := set_block (M4).1 [.int .i64 0, .int .i64 0, .string ⟨#[]⟩, .string ⟨#[]⟩, .string ⟨#[]⟩] rfl
  have hY4 := below_setCells (B := w.heap.size) hB4 (b := w.heap.size) (by have := hB4.size; omega) 0 [.int .i64 0, .int .i64 0, .string ⟨#[]⟩, .string ⟨#[]⟩, .string ⟨#[]⟩]
  obtain ⟨W_e, hW_e⟩ : ∃ W_e, W_e = w4.setCells (w.heap.size) 0 [.int .i64 0, .int .i64 0, .string ⟨#[]⟩, .string ⟨#[]⟩, .string ⟨#[]⟩] := ⟨_, rfl⟩
  rw [← hW_e] at hX4 hY4
  refine at_world hW_e ?_
  have k_0 := Mem.cell (v := .int .i64 0) hX4 0 rfl
  have k_1 := Mem.cell (v := .int .i64 0) hX4 1 rfl
  have k_2 := Mem.cell (v := .string ⟨#[]⟩) hX4 2 rfl
  have k_3 := Mem.cell (v := .string ⟨#[]⟩) hX4 3 rfl
  have k_4 := Mem.cell (v := .string ⟨#[]⟩) hX4 4 rfl
  refine bodyPost_ret (v := .tuple #[.agg #[.int .i64 0, .int .i64 0, .string ⟨#[]⟩, .string ⟨#[]⟩, .string ⟨#[]⟩], .int .i64 0, .bool false]) (by simp [results, Tryz.results29, go_sem, k_0, k_1, k_2, k_3, k_4]) rfl ⟨rfl, hY4⟩
set_option maxRecDepth 100000 in
set_option maxHeartbeats 1000000 in
theorem vget5_yes (s : ByteArray) (a : Nat) (w : World) (hw : LaidV w) (hs : s.size ≤ 1152921504606846976) (ha : a < s.size) (hix : ∀ W, (Instr.index 9 (.string s) (.int .i64 a)).run Tryz.prog W = .ok (.int .u8 5) W) (m S I : ByteArray) (x : Nat) (y : Int) (h_g : ∀ w, LaidV w → Calls Tryz.prog 53 #[.string s, .int .i64 ((a : Int) + 1)] w fun e w' => e = .returned (.tuple #[.string m, .int .i64 x, .bool true]) ∧ Below w.heap.size w w') (h_l : ∀ w, Calls Tryz.prog 52 #[.string s, .int .i64 (x : Int)] w fun e w' => e = .returned (.tuple #[.agg #[.string S, .string I], .int .i64 y, .bool true]) ∧ Below w.heap.size w w') :
    Calls Tryz.prog 29 #[.string s, .int .i64 a] w fun e w' => e = .returned (.tuple #[.agg #[.int .i64 5, .int .i64 0, .string m, .string S, .string I], .int .i64 y, .bool true]) ∧ Below w.heap.size w w' := by
  have h0 : (0 : Int) ≤ a := by omega
  have h1 : (a : Int) < s.size := by omega
  go_enter Tryz.func29, Tryz.ntmps29
  have hB0 := Below.refl w.heap.size w
  have M0 := Mem.nil w
  have hw0 := hw
  go_wp2_with fail
  refine Calls.named ?_
  intro W1 hW1
  have hB1_ : Below w.heap.size w W1 := by rw [hW1]; exact (below_al hB0 _)
  have hw1_ : LaidV W1 := by rw [hW1]; exact (hw.alloc _)
  have M1_ := (M0).new' (w.heap.size) (by rfl) (.cells #[.int .i64 5, .int .i64 0, .string ⟨#[]⟩, .string ⟨#[]⟩, .string ⟨#[]⟩] 50)
  rw [← hW1] at M1_
  clear hW1
  have ZZ1_0 := Lib.hid (Mem.lt M1_.1)
  refine (h_g _ hw1_).mono ?_
  rintro e w1 ⟨rfl, hb1⟩
  have hB1 := below_then hB1_ hb1
  have hw1 := hw1_.below hb1
  have M1 := M1_.below hb1
  clear M1_ hB1_ hb1 hw1_
  have c1_0_0 := Mem.cell (v := .int .i64 5) M1.1 0 rfl
  have c1_0_1 := Mem.cell (v := .int .i64 0) M1.1 1 rfl
  have c1_0_2 := Mem.cell (v := .string ⟨#[]⟩) M1.1 2 rfl
  have c1_0_3 := Mem.cell (v := .string ⟨#[]⟩) M1.1 3 rfl
  have c1_0_4 := Mem.cell (v := .string ⟨#[]⟩) M1.1 4 rfl
  have z1_0 := Mem.lt M1.1
  have f1 := fun j => Mem.free M1.1 j
  go_upto_region 15 with (fail)
  have hX1 : (w1.setCells (w.heap.size) 2 [.string m]).heap[w.heap.size]? = some (.cells #[.int .i64 5, .int .i64 0, .string m, .string ⟨#[]⟩, .string ⟨#[]⟩] 50) := by rw [setCells_block [.string m] 2 _ _ (M1).1 (by simp)]; rfl
  have hY1 := below_setCells (B := w.heap.size) hB1 (b := w.heap.size) (by have := hB1.size; omega) 2 [.string m]
  refine wp_named ?_
  intro w2 hW2
  have hB2 : Below w.heap.size w w2 := by rw [hW2]; exact hY1
  have hw2 : LaidV w2 := hw0.below hB2
  have M2 : Mem w2 [(w.heap.size, .cells #[.int .i64 5, .int .i64 0, .string m, .string ⟨#[]⟩, .string ⟨#[]⟩] 50)] := by rw [hW2]; exact ⟨hX1, trivial⟩
  clear c1_0_0 c1_0_1 c1_0_2 c1_0_3 c1_0_4 z1_0
  clear hW2 hX1 hY1
  have c2_0_0 := Mem.cell (v := .int .i64 5) M2.1 0 rfl
  have c2_0_1 := Mem.cell (v := .int .i64 0) M2.1 1 rfl
  have c2_0_2 := Mem.cell (v := .string m) M2.1 2 rfl
  have c2_0_3 := Mem.cell (v := .string ⟨#[]⟩) M2.1 3 rfl
  have c2_0_4 := Mem.cell (v := .string ⟨#[]⟩) M2.1 4 rfl
  have z2_0 := Mem.lt M2.1
  go_wp2_with fail
  refine Calls.named ?_
  intro W3 hW3
  have hB3_ : Below w.heap.size w W3 := by rw [hW3]; exact hB2
  have hw3_ : LaidV W3 := by rw [hW3]; exact hw2
  have M3_ := M2
  rw [← hW3] at M3_
  clear hW3
  have ZZ3_0 := Lib.hid (Mem.lt M3_.1)
  clear c2_0_0 c2_0_1 c2_0_2 c2_0_3 c2_0_4 z2_0
  refine (h_l _).mono ?_
  rintro e w3 ⟨rfl, hb3⟩
  have hB3 := below_then hB3_ hb3
  have hw3 := hw3_.below hb3
  have M3 := M3_.below hb3
  clear M3_ hB3_ hb3 hw3_
  have c3_0_0 := Mem.cell (v := .int .i64 5) M3.1 0 rfl
  have c3_0_1 := Mem.cell (v := .int .i64 0) M3.1 1 rfl
  have c3_0_2 := Mem.cell (v := .string m) M3.1 2 rfl
  have c3_0_3 := Mem.cell (v := .string ⟨#[]⟩) M3.1 3 rfl
  have c3_0_4 := Mem.cell (v := .string ⟨#[]⟩) M3.1 4 rfl
  have z3_0 := Mem.lt M3.1
  have f3 := fun j => Mem.free M3.1 j
  go_upto_region 17 with (fail)
  have hX3 : (w3.setCells (w.heap.size) 3 [.string S, .string I]).heap[w.heap.size]? = some (.cells #[.int .i64 5, .int .i64 0, .string m, .string S, .string I] 50) := by rw [setCells_block [.string S, .string I] 3 _ _ (M3).1 (by simp)]; rfl
  have hY3 := below_setCells (B := w.heap.size) hB3 (b := w.heap.size) (by have := hB3.size; omega) 3 [.string S, .string I]
  refine wp_named ?_
  intro w4 hW4
  have hB4 : Below w.heap.size w w4 := by rw [hW4]; exact hY3
  have hw4 : LaidV w4 := hw0.below hB4
  have M4 : Mem w4 [(w.heap.size, .cells #[.int .i64 5, .int .i64 0, .string m, .string S, .string I] 50)] := by rw [hW4]; exact ⟨hX3, trivial⟩
  clear c3_0_0 c3_0_1 c3_0_2 c3_0_3 c3_0_4 z3_0
  clear hW4 hX3 hY3
  have c4_0_0 := Mem.cell (v := .int .i64 5) M4.1 0 rfl
  have c4_0_1 := Mem.cell (v := .int .i64 0) M4.1 1 rfl
  have c4_0_2 := Mem.cell (v := .string m) M4.1 2 rfl
  have c4_0_3 := Mem.cell (v := .string S) M4.1 3 rfl
  have c4_0_4 := Mem.cell (v := .string I) M4.1 4 rfl
  have z4_0 := Mem.lt M4.1
  have f4 := fun j => Mem.free M4.1 j
  go_wp2_with fail
  have hX4 := set_block (M4).1 [.int .i64 5, .int .i64 0, .string m, .string S, .string I] rfl
  have hY4 := below_setCells (B := w.heap.size) hB4 (b := w.heap.size) (by have := hB4.size; omega) 0 [.int .i64 5, .int .i64 0, .string m, .string S, .string I]
  obtain ⟨W_e, hW_e⟩ : ∃ W_e, W_e = w4.setCells (w.heap.size) 0 [.int .i64 5, .int .i64 0, .string m, .string S, .string I] := ⟨_, rfl⟩
  rw [← hW_e] at hX4 hY4
  refine at_world hW_e ?_
  have k_0 := Mem.cell (v := .int .i64 5) hX4 0 rfl
  have k_1 := Mem.cell (v := .int .i64 0) hX4 1 rfl
  have k_2 := Mem.cell (v := .string m) hX4 2 rfl
  have k_3 := Mem.cell (v := .string S) hX4 3 rfl
  have k_4 := Mem.cell (v := .string I) hX4 4 rfl
  refine bodyPost_ret (v := .tuple #[.agg #[.int .i64 5, .int .i64 0, .string m, .string S, .string I], .int .i64 y, .bool true]) (by simp [results, Tryz.results29, go_sem, k_0, k_1, k_2, k_3, k_4]) rfl ⟨rfl, hY4⟩
set_option maxRecDepth 100000 in
set_option maxHeartbeats 1000000 in
theorem vget6_no (s : ByteArray) (a : Nat) (w : World) (hw : LaidV w) (hs : s.size ≤ 1152921504606846976) (ha : a < s.size) (hix : ∀ W, (Instr.index 9 (.string s) (.int .i64 a)).run Tryz.prog W = .ok (.int .u8 6) W) (h_g : ∀ w, LaidV w → Calls Tryz.prog 53 #[.string s, .int .i64 ((a : Int) + 1)] w fun e w' => e = .returned (.tuple #[.string ⟨#[]⟩, .int .i64 0, .bool false]) ∧ Below w.heap.size w w') :
    Calls Tryz.prog 29 #[.string s, .int .i64 a] w fun e w' => e = vgetE none 0 ∧ Below w.heap.size w w' := by
  have h0 : (0 : Int) ≤ a := by omega
  have h1 : (a : Int) < s.size := by omega
  go_enter Tryz.func29, Tryz.ntmps29
  have hB0 := Below.refl w.heap.size w
  have M0 := Mem.nil w
  have hw0 := hw
  go_wp2_with fail
  refine Calls.named ?_
  intro W1 hW1
  have hB1_ : Below w.heap.size w W1 := by rw [hW1]; exact (below_al hB0 _)
  have hw1_ : LaidV W1 := by rw [hW1]; exact (hw.alloc _)
  have M1_ := (M0).new' (w.heap.size) (by rfl) (.cells #[.int .i64 6, .int .i64 0, .string ⟨#[]⟩, .string ⟨#[]⟩, .string ⟨#[]⟩] 50)
  rw [← hW1] at M1_
  clear hW1
  have ZZ1_0 := Lib.hid (Mem.lt M1_.1)
  refine (h_g _ hw1_).mono ?_
  rintro e w1 ⟨rfl, hb1⟩
  have hB1 := below_then hB1_ hb1
  have hw1 := hw1_.below hb1
  have M1 := M1_.below hb1
  clear M1_ hB1_ hb1 hw1_
  have c1_0_0 := Mem.cell (v := .int .i64 6) M1.1 0 rfl
  have c1_0_1 := Mem.cell (v := .int .i64 0) M1.1 1 rfl
  have c1_0_2 := Mem.cell (v := .string ⟨#[]⟩) M1.1 2 rfl
  have c1_0_3 := Mem.cell (v := .string ⟨#[]⟩) M1.1 3 rfl
  have c1_0_4 := Mem.cell (v := .string ⟨#[]⟩) M1.1 4 rfl
  have z1_0 := Mem.lt M1.1
  have f1 := fun j => Mem.free M1.1 j
  go_upto_region 15 with (fail)
  have hX1 : (w1.setCells (w.heap.size) 2 [.string ⟨#[]⟩]).heap[w.heap.size]? = some (.cells #[.int .i64 6, .int .i64 0, .string ⟨#[]⟩, .string ⟨#[]⟩, .string ⟨#[]⟩] 50) := by rw [setCells_block [.string ⟨#[]⟩] 2 _ _ (M1).1 (by simp)]; rfl
  have hY1 := below_setCells (B := w.heap.size) hB1 (b := w.heap.size) (by have := hB1.size; omega) 2 [.string ⟨#[]⟩]
  refine wp_named ?_
  intro w2 hW2
  have hB2 : Below w.heap.size w w2 := by rw [hW2]; exact hY1
  have hw2 : LaidV w2 := hw0.below hB2
  have M2 : Mem w2 [(w.heap.size, .cells #[.int .i64 6, .int .i64 0, .string ⟨#[]⟩, .string ⟨#[]⟩, .string ⟨#[]⟩] 50)] := by rw [hW2]; exact ⟨hX1, trivial⟩
  clear c1_0_0 c1_0_1 c1_0_2 c1_0_3 c1_0_4 z1_0
  clear hW2 hX1 hY1
  have c2_0_0 := Mem.cell (v := .int .i64 6) M2.1 0 rfl
  have c2_0_1 := Mem.cell (v := .int .i64 0) M2.1 1 rfl
  have c2_0_2 := Mem.cell (v := .string ⟨#[]⟩) M2.1 2 rfl
  have c2_0_3 := Mem.cell (v := .string ⟨#[]⟩) M2.1 3 rfl
  have c2_0_4 := Mem.cell (v := .string ⟨#[]⟩) M2.1 4 rfl
  have z2_0 := Mem.lt M2.1
  have f2 := fun j => Mem.free M2.1 j
  go_wp2_with fail
  have hX2 := set_block (M2).1 [.int .i64 0, .int .i64 0, .string ⟨#[]⟩, .string ⟨#[]⟩, .string ⟨#[]⟩] rfl
  have hY2 := below_setCells (B := w.heap.size) hB2 (b := w.heap.size) (by have := hB2.size; omega) 0 [.int .i64 0, .int .i64 0, .string ⟨#[]⟩, .string ⟨#[]⟩, .string ⟨#[]⟩]
  obtain ⟨W_e, hW_e⟩ : ∃ W_e, W_e = w2.setCells (w.heap.size) 0 [.int .i64 0, .int .i64 0, .string ⟨#[]⟩, .string ⟨#[]⟩, .string ⟨#[]⟩] := ⟨_, rfl⟩
  rw [← hW_e] at hX2 hY2
  refine at_world hW_e ?_
  have k_0 := Mem.cell (v := .int .i64 0) hX2 0 rfl
  have k_1 := Mem.cell (v := .int .i64 0) hX2 1 rfl
  have k_2 := Mem.cell (v := .string ⟨#[]⟩) hX2 2 rfl
  have k_3 := Mem.cell (v := .string ⟨#[]⟩) hX2 3 rfl
  have k_4 := Mem.cell (v := .string ⟨#[]⟩) hX2 4 rfl
  refine bodyPost_ret (v := .tuple #[.agg #[.int .i64 0, .int .i64 0, .string ⟨#[]⟩, .string ⟨#[]⟩, .string ⟨#[]⟩], .int .i64 0, .bool false]) (by simp [results, Tryz.results29, go_sem, k_0, k_1, k_2, k_3, k_4]) rfl ⟨rfl, hY2⟩
set_option maxRecDepth 100000 in
set_option maxHeartbeats 1000000 in
theorem vget6_no2 (s : ByteArray) (a : Nat) (w : World) (hw : LaidV w) (hs : s.size ≤ 1152921504606846976) (ha : a < s.size) (hix : ∀ W, (Instr.index 9 (.string s) (.int .i64 a)).run Tryz.prog W = .ok (.int .u8 6) W) (m : ByteArray) (x : Nat) (h_g : ∀ w, LaidV w → Calls Tryz.prog 53 #[.string s, .int .i64 ((a : Int) + 1)] w fun e w' => e = .returned (.tuple #[.string m, .int .i64 x, .bool true]) ∧ Below w.heap.size w w') (h_l : ∀ w, Calls Tryz.prog 52 #[.string s, .int .i64 (x : Int)] w fun e w' => e = .returned (.tuple #[.agg #[.string ⟨#[]⟩, .string ⟨#[]⟩], .int .i64 0, .bool false]) ∧ Below w.heap.size w w') :
    Calls Tryz.prog 29 #[.string s, .int .i64 a] w fun e w' => e = vgetE none 0 ∧ Below w.heap.size w w' := by
  have h0 : (0 : Int) ≤ a := by omega
  have h1 : (a : Int) < s.size := by omega
  go_enter Tryz.func29, Tryz.ntmps29
  have hB0 := Below.refl w.heap.size w
  have M0 := Mem.nil w
  have hw0 := hw
  go_wp2_with fail
  refine Calls.named ?_
  intro W1 hW1
  have hB1_ : Below w.heap.size w W1 := by rw [hW1]; exact (below_al hB0 _)
  have hw1_ : LaidV W1 := by rw [hW1]; exact (hw.alloc _)
  have M1_ := (M0).new' (w.heap.size) (by rfl) (.cells #[.int .i64 6, .int .i64 0, .string ⟨#[]⟩, .string ⟨#[]⟩, .string ⟨#[]⟩] 50)
  rw [← hW1] at M1_
  clear hW1
  have ZZ1_0 := Lib.hid (Mem.lt M1_.1)
  refine (h_g _ hw1_).mono ?_
  rintro e w1 ⟨rfl, hb1⟩
  have hB1 := below_then hB1_ hb1
  have hw1 := hw1_.below hb1
  have M1 := M1_.below hb1
  clear M1_ hB1_ hb1 hw1_
  have c1_0_0 := Mem.cell (v := .int .i64 6) M1.1 0 rfl
  have c1_0_1 := Mem.cell (v := .int .i64 0) M1.1 1 rfl
  have c1_0_2 := Mem.cell (v := .string ⟨#[]⟩) M1.1 2 rfl
  have c1_0_3 := Mem.cell (v := .string ⟨#[]⟩) M1.1 3 rfl
  have c1_0_4 := Mem.cell (v := .string ⟨#[]⟩) M1.1 4 rfl
  have z1_0 := Mem.lt M1.1
  have f1 := fun j => Mem.free M1.1 j
  go_upto_region 15 with (fail)
  have hX1 : (w1.setCells (w.heap.size) 2 [.string m]).heap[w.heap.size]? = some (.cells #[.int .i64 6, .int .i64 0, .string m, .string ⟨#[]⟩, .string ⟨#[]⟩] 50) := by rw [setCells_block [.string m] 2 _ _ (M1).1 (by simp)]; rfl
  have hY1 := below_setCells (B := w.heap.size) hB1 (b := w.heap.size) (by have := hB1.size; omega) 2 [.string m]
  refine wp_named ?_
  intro w2 hW2
  have hB2 : Below w.heap.size w w2 := by rw [hW2]; exact hY1
  have hw2 : LaidV w2 := hw0.below hB2
  have M2 : Mem w2 [(w.heap.size, .cells #[.int .i64 6, .int .i64 0, .string m, .string ⟨#[]⟩, .string ⟨#[]⟩] 50)] := by rw [hW2]; exact ⟨hX1, trivial⟩
  clear c1_0_0 c1_0_1 c1_0_2 c1_0_3 c1_0_4 z1_0
  clear hW2 hX1 hY1
  have c2_0_0 := Mem.cell (v := .int .i64 6) M2.1 0 rfl
  have c2_0_1 := Mem.cell (v := .int .i64 0) M2.1 1 rfl
  have c2_0_2 := Mem.cell (v := .string m) M2.1 2 rfl
  have c2_0_3 := Mem.cell (v := .string ⟨#[]⟩) M2.1 3 rfl
  have c2_0_4 := Mem.cell (v := .string ⟨#[]⟩) M2.1 4 rfl
  have z2_0 := Mem.lt M2.1
  go_wp2_with fail
  refine Calls.named ?_
  intro W3 hW3
  have hB3_ : Below w.heap.size w W3 := by rw [hW3]; exact hB2
  have hw3_ : LaidV W3 := by rw [hW3]; exact hw2
  have M3_ := M2
  rw [← hW3] at M3_
  clear hW3
  have ZZ3_0 := Lib.hid (Mem.lt M3_.1)
  clear c2_0_0 c2_0_1 c2_0_2 c2_0_3 c2_0_4 z2_0
  refine (h_l _).mono ?_
  rintro e w3 ⟨rfl, hb3⟩
  have hB3 := below_then hB3_ hb3
  have hw3 := hw3_.below hb3
  have M3 := M3_.below hb3
  clear M3_ hB3_ hb3 hw3_
  have c3_0_0 := Mem.cell (v := .int .i64 6) M3.1 0 rfl
  have c3_0_1 := Mem.cell (v := .int .i64 0) M3.1 1 rfl
  have c3_0_2 := Mem.cell (v := .string m) M3.1 2 rfl
  have c3_0_3 := Mem.cell (v := .string ⟨#[]⟩) M3.1 3 rfl
  have c3_0_4 := Mem.cell (v := .string ⟨#[]⟩) M3.1 4 rfl
  have z3_0 := Mem.lt M3.1
  have f3 := fun j => Mem.free M3.1 j
  go_upto_region 17 with (fail)
  have hX3 : (w3.setCells (w.heap.size) 3 [.string ⟨#[]⟩, .string ⟨#[]⟩]).heap[w.heap.size]? = some (.cells #[.int .i64 6, .int .i64 0, .string m, .string ⟨#[]⟩, .string ⟨#[]⟩] 50) := by rw [setCells_block [.string ⟨#[]⟩, .string ⟨#[]⟩] 3 _ _ (M3).1 (by simp)]; rfl
  have hY3 := below_setCells (B := w.heap.size) hB3 (b := w.heap.size) (by have := hB3.size; omega) 3 [.string ⟨#[]⟩, .string ⟨#[]⟩]
  refine wp_named ?_
  intro w4 hW4
  have hB4 : Below w.heap.size w w4 := by rw [hW4]; exact hY3
  have hw4 : LaidV w4 := hw0.below hB4
  have M4 : Mem w4 [(w.heap.size, .cells #[.int .i64 6, .int .i64 0, .string m, .string ⟨#[]⟩, .string ⟨#[]⟩] 50)] := by rw [hW4]; exact ⟨hX3, trivial⟩
  clear c3_0_0 c3_0_1 c3_0_2 c3_0_3 c3_0_4 z3_0
  clear hW4 hX3 hY3
  have c4_0_0 := Mem.cell (v := .int .i64 6) M4.1 0 rfl
  have c4_0_1 := Mem.cell (v := .int .i64 0) M4.1 1 rfl
  have c4_0_2 := Mem.cell (v := .string m) M4.1 2 rfl
  have c4_0_3 := Mem.cell (v := .string ⟨#[]⟩) M4.1 3 rfl
  have c4_0_4 := Mem.cell (v := .string ⟨#[]⟩) M4.1 4 rfl
  have z4_0 := Mem.lt M4.1
  have f4 := fun j => Mem.free M4.1 j
  go_wp2_with fail
  have hX4 := set_block (M4).1 [.int .i64 0, .int .i64 0, .string ⟨#[]⟩, .string ⟨#[]⟩, .string ⟨#[]⟩] rfl
  have hY4 := below_setCells (B := w.heap.size) hB4 (b := w.heap.size) (by have := hB4.size; omega) 0 [.int .i64 0, .int .i64 0, .string ⟨#[]⟩, .string ⟨#[]⟩, .string ⟨#[]⟩]
  obtain ⟨W_e, hW_e⟩ : ∃ W_e, W_e = w4.setCells (w.heap.size) 0 [.int .i64 0, .int .i64 0, .string ⟨#[]⟩, .string ⟨#[]⟩, .string ⟨#[]⟩] := ⟨_, rfl⟩
  rw [← hW_e] at hX4 hY4
  refine at_world hW_e ?_
  have k_0 := Mem.cell (v := .int .i64 0) hX4 0 rfl
  have k_1 := Mem.cell (v := .int .i64 0) hX4 1 rfl
  have k_2 := Mem.cell (v := .string ⟨#[]⟩) hX4 2 rfl
  have k_3 := Mem.cell (v := .string ⟨#[]⟩) hX4 3 rfl
  have k_4 := Mem.cell (v := .string ⟨#[]⟩) hX4 4 rfl
  refine bodyPost_ret (v := .tuple #[.agg #[.int .i64 0, .int .i64 0, .string ⟨#[]⟩, .string ⟨#[]⟩, .string ⟨#[]⟩], .int .i64 0, .bool false]) (by simp [results, Tryz.results29, go_sem, k_0, k_1, k_2, k_3, k_4]) rfl ⟨rfl, hY4⟩
set_option maxRecDepth 100000 in
set_option maxHeartbeats 1000000 in
theorem vget6_yes (s : ByteArray) (a : Nat) (w : World) (hw : LaidV w) (hs : s.size ≤ 1152921504606846976) (ha : a < s.size) (hix : ∀ W, (Instr.index 9 (.string s) (.int .i64 a)).run Tryz.prog W = .ok (.int .u8 6) W) (m S I : ByteArray) (x : Nat) (y : Int) (h_g : ∀ w, LaidV w → Calls Tryz.prog 53 #[.string s, .int .i64 ((a : Int) + 1)] w fun e w' => e = .returned (.tuple #[.string m, .int .i64 x, .bool true]) ∧ Below w.heap.size w w') (h_l : ∀ w, Calls Tryz.prog 52 #[.string s, .int .i64 (x : Int)] w fun e w' => e = .returned (.tuple #[.agg #[.string S, .string I], .int .i64 y, .bool true]) ∧ Below w.heap.size w w') :
    Calls Tryz.prog 29 #[.string s, .int .i64 a] w fun e w' => e = .returned (.tuple #[.agg #[.int .i64 6, .int .i64 0, .string m, .string S, .string I], .int .i64 y, .bool true]) ∧ Below w.heap.size w w' := by
  have h0 : (0 : Int) ≤ a := by omega
  have h1 : (a : Int) < s.size := by omega
  go_enter Tryz.func29, Tryz.ntmps29
  have hB0 := Below.refl w.heap.size w
  have M0 := Mem.nil w
  have hw0 := hw
  go_wp2_with fail
  refine Calls.named ?_
  intro W1 hW1
  have hB1_ : Below w.heap.size w W1 := by rw [hW1]; exact (below_al hB0 _)
  have hw1_ : LaidV W1 := by rw [hW1]; exact (hw.alloc _)
  have M1_ := (M0).new' (w.heap.size) (by rfl) (.cells #[.int .i64 6, .int .i64 0, .string ⟨#[]⟩, .string ⟨#[]⟩, .string ⟨#[]⟩] 50)
  rw [← hW1] at M1_
  clear hW1
  have ZZ1_0 := Lib.hid (Mem.lt M1_.1)
  refine (h_g _ hw1_).mono ?_
  rintro e w1 ⟨rfl, hb1⟩
  have hB1 := below_then hB1_ hb1
  have hw1 := hw1_.below hb1
  have M1 := M1_.below hb1
  clear M1_ hB1_ hb1 hw1_
  have c1_0_0 := Mem.cell (v := .int .i64 6) M1.1 0 rfl
  have c1_0_1 := Mem.cell (v := .int .i64 0) M1.1 1 rfl
  have c1_0_2 := Mem.cell (v := .string ⟨#[]⟩) M1.1 2 rfl
  have c1_0_3 := Mem.cell (v := .string ⟨#[]⟩) M1.1 3 rfl
  have c1_0_4 := Mem.cell (v := .string ⟨#[]⟩) M1.1 4 rfl
  have z1_0 := Mem.lt M1.1
  have f1 := fun j => Mem.free M1.1 j
  go_upto_region 15 with (fail)
  have hX1 : (w1.setCells (w.heap.size) 2 [.string m]).heap[w.heap.size]? = some (.cells #[.int .i64 6, .int .i64 0, .string m, .string ⟨#[]⟩, .string ⟨#[]⟩] 50) := by rw [setCells_block [.string m] 2 _ _ (M1).1 (by simp)]; rfl
  have hY1 := below_setCells (B := w.heap.size) hB1 (b := w.heap.size) (by have := hB1.size; omega) 2 [.string m]
  refine wp_named ?_
  intro w2 hW2
  have hB2 : Below w.heap.size w w2 := by rw [hW2]; exact hY1
  have hw2 : LaidV w2 := hw0.below hB2
  have M2 : Mem w2 [(w.heap.size, .cells #[.int .i64 6, .int .i64 0, .string m, .string ⟨#[]⟩, .string ⟨#[]⟩] 50)] := by rw [hW2]; exact ⟨hX1, trivial⟩
  clear c1_0_0 c1_0_1 c1_0_2 c1_0_3 c1_0_4 z1_0
  clear hW2 hX1 hY1
  have c2_0_0 := Mem.cell (v := .int .i64 6) M2.1 0 rfl
  have c2_0_1 := Mem.cell (v := .int .i64 0) M2.1 1 rfl
  have c2_0_2 := Mem.cell (v := .string m) M2.1 2 rfl
  have c2_0_3 := Mem.cell (v := .string ⟨#[]⟩) M2.1 3 rfl
  have c2_0_4 := Mem.cell (v := .string ⟨#[]⟩) M2.1 4 rfl
  have z2_0 := Mem.lt M2.1
  go_wp2_with fail
  refine Calls.named ?_
  intro W3 hW3
  have hB3_ : Below w.heap.size w W3 := by rw [hW3]; exact hB2
  have hw3_ : LaidV W3 := by rw [hW3]; exact hw2
  have M3_ := M2
  rw [← hW3] at M3_
  clear hW3
  have ZZ3_0 := Lib.hid (Mem.lt M3_.1)
  clear c2_0_0 c2_0_1 c2_0_2 c2_0_3 c2_0_4 z2_0
  refine (h_l _).mono ?_
  rintro e w3 ⟨rfl, hb3⟩
  have hB3 := below_then hB3_ hb3
  have hw3 := hw3_.below hb3
  have M3 := M3_.below hb3
  clear M3_ hB3_ hb3 hw3_
  have c3_0_0 := Mem.cell (v := .int .i64 6) M3.1 0 rfl
  have c3_0_1 := Mem.cell (v := .int .i64 0) M3.1 1 rfl
  have c3_0_2 := Mem.cell (v := .string m) M3.1 2 rfl
  have c3_0_3 := Mem.cell (v := .string ⟨#[]⟩) M3.1 3 rfl
  have c3_0_4 := Mem.cell (v := .string ⟨#[]⟩) M3.1 4 rfl
  have z3_0 := Mem.lt M3.1
  have f3 := fun j => Mem.free M3.1 j
  go_upto_region 17 with (fail)
  have hX3 : (w3.setCells (w.heap.size) 3 [.string S, .string I]).heap[w.heap.size]? = some (.cells #[.int .i64 6, .int .i64 0, .string m, .string S, .string I] 50) := by rw [setCells_block [.string S, .string I] 3 _ _ (M3).1 (by simp)]; rfl
  have hY3 := below_setCells (B := w.heap.size) hB3 (b := w.heap.size) (by have := hB3.size; omega) 3 [.string S, .string I]
  refine wp_named ?_
  intro w4 hW4
  have hB4 : Below w.heap.size w w4 := by rw [hW4]; exact hY3
  have hw4 : LaidV w4 := hw0.below hB4
  have M4 : Mem w4 [(w.heap.size, .cells #[.int .i64 6, .int .i64 0, .string m, .string S, .string I] 50)] := by rw [hW4]; exact ⟨hX3, trivial⟩
  clear c3_0_0 c3_0_1 c3_0_2 c3_0_3 c3_0_4 z3_0
  clear hW4 hX3 hY3
  have c4_0_0 := Mem.cell (v := .int .i64 6) M4.1 0 rfl
  have c4_0_1 := Mem.cell (v := .int .i64 0) M4.1 1 rfl
  have c4_0_2 := Mem.cell (v := .string m) M4.1 2 rfl
  have c4_0_3 := Mem.cell (v := .string S) M4.1 3 rfl
  have c4_0_4 := Mem.cell (v := .string I) M4.1 4 rfl
  have z4_0 := Mem.lt M4.1
  have f4 := fun j => Mem.free M4.1 j
  go_wp2_with fail
  have hX4 := set_block (M4).1 [.int .i64 6, .int .i64 0, .string m, .string S, .string I] rfl
  have hY4 := below_setCells (B := w.heap.size) hB4 (b := w.heap.size) (by have := hB4.size; omega) 0 [.int .i64 6, .int .i64 0, .string m, .string S, .string I]
  obtain ⟨W_e, hW_e⟩ : ∃ W_e, W_e = w4.setCells (w.heap.size) 0 [.int .i64 6, .int .i64 0, .string m, .string S, .string I] := ⟨_, rfl⟩
  rw [← hW_e] at hX4 hY4
  refine at_world hW_e ?_
  have k_0 := Mem.cell (v := .int .i64 6) hX4 0 rfl
  have k_1 := Mem.cell (v := .int .i64 0) hX4 1 rfl
  have k_2 := Mem.cell (v := .string m) hX4 2 rfl
  have k_3 := Mem.cell (v := .string S) hX4 3 rfl
  have k_4 := Mem.cell (v := .string I) hX4 4 rfl
  refine bodyPost_ret (v := .tuple #[.agg #[.int .i64 6, .int .i64 0, .string m, .string S, .string I], .int .i64 y, .bool true]) (by simp [results, Tryz.results29, go_sem, k_0, k_1, k_2, k_3, k_4]) rfl ⟨rfl, hY4⟩
set_option maxRecDepth 100000 in
set_option maxHeartbeats 1000000 in
theorem vget7_no (s : ByteArray) (a : Nat) (w : World) (hw : LaidV w) (hs : s.size ≤ 1152921504606846976) (ha : a < s.size) (hix : ∀ W, (Instr.index 9 (.string s) (.int .i64 a)).run Tryz.prog W = .ok (.int .u8 7) W) (h_g : ∀ w, LaidV w → Calls Tryz.prog 53 #[.string s, .int .i64 ((a : Int) + 1)] w fun e w' => e = .returned (.tuple #[.string ⟨#[]⟩, .int .i64 0, .bool false]) ∧ Below w.heap.size w w') :
    Calls Tryz.prog 29 #[.string s, .int .i64 a] w fun e w' => e = vgetE none 0 ∧ Below w.heap.size w w' := by
  have h0 : (0 : Int) ≤ a := by omega
  have h1 : (a : Int) < s.size := by omega
  go_enter Tryz.func29, Tryz.ntmps29
  have hB0 := Below.refl w.heap.size w
  have M0 := Mem.nil w
  have hw0 := hw
  go_wp2_with fail
  refine Calls.named ?_
  intro W1 hW1
  have hB1_ : Below w.heap.size w W1 := by rw [hW1]; exact (below_al hB0 _)
  have hw1_ : LaidV W1 := by rw [hW1]; exact (hw.alloc _)
  have M1_ := (M0).new' (w.heap.size) (by rfl) (.cells #[.int .i64 7, .int .i64 0, .string ⟨#[]⟩, .string ⟨#[]⟩, .string ⟨#[]⟩] 50)
  rw [← hW1] at M1_
  clear hW1
  have ZZ1_0 := Lib.hid (Mem.lt M1_.1)
  refine (h_g _ hw1_).mono ?_
  rintro e w1 ⟨rfl, hb1⟩
  have hB1 := below_then hB1_ hb1
  have hw1 := hw1_.below hb1
  have M1 := M1_.below hb1
  clear M1_ hB1_ hb1 hw1_
  have c1_0_0 := Mem.cell (v := .int .i64 7) M1.1 0 rfl
  have c1_0_1 := Mem.cell (v := .int .i64 0) M1.1 1 rfl
  have c1_0_2 := Mem.cell (v := .string ⟨#[]⟩) M1.1 2 rfl
  have c1_0_3 := Mem.cell (v := .string ⟨#[]⟩) M1.1 3 rfl
  have c1_0_4 := Mem.cell (v := .string ⟨#[]⟩) M1.1 4 rfl
  have z1_0 := Mem.lt M1.1
  have f1 := fun j => Mem.free M1.1 j
  go_upto_region 15 with (fail)
  have hX1 : (w1.setCells (w.heap.size) 2 [.string ⟨#[]⟩]).heap[w.heap.size]? = some (.cells #[.int .i64 7, .int .i64 0, .string ⟨#[]⟩, .string ⟨#[]⟩, .string ⟨#[]⟩] 50) := by rw [setCells_block [.string ⟨#[]⟩] 2 _ _ (M1).1 (by simp)]; rfl
  have hY1 := below_setCells (B := w.heap.size) hB1 (b := w.heap.size) (by have := hB1.size; omega) 2 [.string ⟨#[]⟩]
  refine wp_named ?_
  intro w2 hW2
  have hB2 : Below w.heap.size w w2 := by rw [hW2]; exact hY1
  have hw2 : LaidV w2 := hw0.below hB2
  have M2 : Mem w2 [(w.heap.size, .cells #[.int .i64 7, .int .i64 0, .string ⟨#[]⟩, .string ⟨#[]⟩, .string ⟨#[]⟩] 50)] := by rw [hW2]; exact ⟨hX1, trivial⟩
  clear c1_0_0 c1_0_1 c1_0_2 c1_0_3 c1_0_4 z1_0
  clear hW2 hX1 hY1
  have c2_0_0 := Mem.cell (v := .int .i64 7) M2.1 0 rfl
  have c2_0_1 := Mem.cell (v := .int .i64 0) M2.1 1 rfl
  have c2_0_2 := Mem.cell (v := .string ⟨#[]⟩) M2.1 2 rfl
  have c2_0_3 := Mem.cell (v := .string ⟨#[]⟩) M2.1 3 rfl
  have c2_0_4 := Mem.cell (v := .string ⟨#[]⟩) M2.1 4 rfl
  have z2_0 := Mem.lt M2.1
  have f2 := fun j => Mem.free M2.1 j
  go_wp2_with fail
  have hX2 := set_block (M2).1 [.int .i64 0, .int .i64 0, .string ⟨#[]⟩, .string ⟨#[]⟩, .string ⟨#[]⟩] rfl
  have hY2 := below_setCells (B := w.heap.size) hB2 (b := w.heap.size) (by have := hB2.size; omega) 0 [.int .i64 0, .int .i64 0, .string ⟨#[]⟩, .string ⟨#[]⟩, .string ⟨#[]⟩]
  obtain ⟨W_e, hW_e⟩ : ∃ W_e, W_e = w2.setCells (w.heap.size) 0 [.int .i64 0, .int .i64 0, .string ⟨#[]⟩, .string ⟨#[]⟩, .string ⟨#[]⟩] := ⟨_, rfl⟩
  rw [← hW_e] at hX2 hY2
  refine at_world hW_e ?_
  have k_0 := Mem.cell (v := .int .i64 0) hX2 0 rfl
  have k_1 := Mem.cell (v := .int .i64 0) hX2 1 rfl
  have k_2 := Mem.cell (v := .string ⟨#[]⟩) hX2 2 rfl
  have k_3 := Mem.cell (v := .string ⟨#[]⟩) hX2 3 rfl
  have k_4 := Mem.cell (v := .string ⟨#[]⟩) hX2 4 rfl
  refine bodyPost_ret (v := .tuple #[.agg #[.int .i64 0, .int .i64 0, .string ⟨#[]⟩, .string ⟨#[]⟩, .string ⟨#[]⟩], .int .i64 0, .bool false]) (by simp [results, Tryz.results29, go_sem, k_0, k_1, k_2, k_3, k_4]) rfl ⟨rfl, hY2⟩
set_option maxRecDepth 100000 in
set_option maxHeartbeats 1000000 in
theorem vget7_no2 (s : ByteArray) (a : Nat) (w : World) (hw : LaidV w) (hs : s.size ≤ 1152921504606846976) (ha : a < s.size) (hix : ∀ W, (Instr.index 9 (.string s) (.int .i64 a)).run Tryz.prog W = .ok (.int .u8 7) W) (m : ByteArray) (x : Nat) (h_g : ∀ w, LaidV w → Calls Tryz.prog 53 #[.string s, .int .i64 ((a : Int) + 1)] w fun e w' => e = .returned (.tuple #[.string m, .int .i64 x, .bool true]) ∧ Below w.heap.size w w') (h_l : ∀ w, Calls Tryz.prog 52 #[.string s, .int .i64 (x : Int)] w fun e w' => e = .returned (.tuple #[.agg #[.string ⟨#[]⟩, .string ⟨#[]⟩], .int .i64 0, .bool false]) ∧ Below w.heap.size w w') :
    Calls Tryz.prog 29 #[.string s, .int .i64 a] w fun e w' => e = vgetE none 0 ∧ Below w.heap.size w w' := by
  have h0 : (0 : Int) ≤ a := by omega
  have h1 : (a : Int) < s.size := by omega
  go_enter Tryz.func29, Tryz.ntmps29
  have hB0 := Below.refl w.heap.size w
  have M0 := Mem.nil w
  have hw0 := hw
  go_wp2_with fail
  refine Calls.named ?_
  intro W1 hW1
  have hB1_ : Below w.heap.size w W1 := by rw [hW1]; exact (below_al hB0 _)
  have hw1_ : LaidV W1 := by rw [hW1]; exact (hw.alloc _)
  have M1_ := (M0).new' (w.heap.size) (by rfl) (.cells #[.int .i64 7, .int .i64 0, .string ⟨#[]⟩, .string ⟨#[]⟩, .string ⟨#[]⟩] 50)
  rw [← hW1] at M1_
  clear hW1
  have ZZ1_0 := Lib.hid (Mem.lt M1_.1)
  refine (h_g _ hw1_).mono ?_
  rintro e w1 ⟨rfl, hb1⟩
  have hB1 := below_then hB1_ hb1
  have hw1 := hw1_.below hb1
  have M1 := M1_.below hb1
  clear M1_ hB1_ hb1 hw1_
  have c1_0_0 := Mem.cell (v := .int .i64 7) M1.1 0 rfl
  have c1_0_1 := Mem.cell (v := .int .i64 0) M1.1 1 rfl
  have c1_0_2 := Mem.cell (v := .string ⟨#[]⟩) M1.1 2 rfl
  have c1_0_3 := Mem.cell (v := .string ⟨#[]⟩) M1.1 3 rfl
  have c1_0_4 := Mem.cell (v := .string ⟨#[]⟩) M1.1 4 rfl
  have z1_0 := Mem.lt M1.1
  have f1 := fun j => Mem.free M1.1 j
  go_upto_region 15 with (fail)
  have hX1 : (w1.setCells (w.heap.size) 2 [.string m]).heap[w.heap.size]? = some (.cells #[.int .i64 7, .int .i64 0, .string m, .string ⟨#[]⟩, .string ⟨#[]⟩] 50) := by rw [setCells_block [.string m] 2 _ _ (M1).1 (by simp)]; rfl
  have hY1 := below_setCells (B := w.heap.size) hB1 (b := w.heap.size) (by have := hB1.size; omega) 2 [.string m]
  refine wp_named ?_
  intro w2 hW2
  have hB2 : Below w.heap.size w w2 := by rw [hW2]; exact hY1
  have hw2 : LaidV w2 := hw0.below hB2
  have M2 : Mem w2 [(w.heap.size, .cells #[.int .i64 7, .int .i64 0, .string m, .string ⟨#[]⟩, .string ⟨#[]⟩] 50)] := by rw [hW2]; exact ⟨hX1, trivial⟩
  clear c1_0_0 c1_0_1 c1_0_2 c1_0_3 c1_0_4 z1_0
  clear hW2 hX1 hY1
  have c2_0_0 := Mem.cell (v := .int .i64 7) M2.1 0 rfl
  have c2_0_1 := Mem.cell (v := .int .i64 0) M2.1 1 rfl
  have c2_0_2 := Mem.cell (v := .string m) M2.1 2 rfl
  have c2_0_3 := Mem.cell (v := .string ⟨#[]⟩) M2.1 3 rfl
  have c2_0_4 := Mem.cell (v := .string ⟨#[]⟩) M2.1 4 rfl
  have z2_0 := Mem.lt M2.1
  go_wp2_with fail
  refine Calls.named ?_
  intro W3 hW3
  have hB3_ : Below w.heap.size w W3 := by rw [hW3]; exact hB2
  have hw3_ : LaidV W3 := by rw [hW3]; exact hw2
  have M3_ := M2
  rw [← hW3] at M3_
  clear hW3
  have ZZ3_0 := Lib.hid (Mem.lt M3_.1)
  clear c2_0_0 c2_0_1 c2_0_2 c2_0_3 c2_0_4 z2_0
  refine (h_l _).mono ?_
  rintro e w3 ⟨rfl, hb3⟩
  have hB3 := below_then hB3_ hb3
  have hw3 := hw3_.below hb3
  have M3 := M3_.below hb3
  clear M3_ hB3_ hb3 hw3_
  have c3_0_0 := Mem.cell (v := .int .i64 7) M3.1 0 rfl
  have c3_0_1 := Mem.cell (v := .int .i64 0) M3.1 1 rfl
  have c3_0_2 := Mem.cell (v := .string m) M3.1 2 rfl
  have c3_0_3 := Mem.cell (v := .string ⟨#[]⟩) M3.1 3 rfl
  have c3_0_4 := Mem.cell (v := .string ⟨#[]⟩) M3.1 4 rfl
  have z3_0 := Mem.lt M3.1
  have f3 := fun j => Mem.free M3.1 j
  go_upto_region 17 with (fail)
  have hX3 : (w3.setCells (w.heap.size) 3 [.string ⟨#[]⟩, .string ⟨#[]⟩]).heap[w.heap.size]? = some (.cells #[.int .i64 7, .int .i64 0, .string m, .string ⟨#[]⟩, .string ⟨#[]⟩] 50) := by rw [setCells_block [.string ⟨#[]⟩, .string ⟨#[]⟩] 3 _ _ (M3).1 (by simp)]; rfl
  have hY3 := below_setCells (B := w.heap.size) hB3 (b := w.heap.size) (by have := hB3.size; omega) 3 [.string ⟨#[]⟩, .string ⟨#[]⟩]
  refine wp_named ?_
  intro w4 hW4
  have hB4 : Below w.heap.size w w4 := by rw [hW4]; exact hY3
  have hw4 : LaidV w4 := hw0.below hB4
  have M4 : Mem w4 [(w.heap.size, .cells #[.int .i64 7, .int .i64 0, .string m, .string ⟨#[]⟩, .string ⟨#[]⟩] 50)] := by rw [hW4]; exact ⟨hX3, trivial⟩
  clear c3_0_0 c3_0_1 c3_0_2 c3_0_3 c3_0_4 z3_0
  clear hW4 hX3 hY3
  have c4_0_0 := Mem.cell (v := .int .i64 7) M4.1 0 rfl
  have c4_0_1 := Mem.cell (v := .int .i64 0) M4.1 1 rfl
  have c4_0_2 := Mem.cell (v := .string m) M4.1 2 rfl
  have c4_0_3 := Mem.cell (v := .string ⟨#[]⟩) M4.1 3 rfl
  have c4_0_4 := Mem.cell (v := .string ⟨#[]⟩) M4.1 4 rfl
  have z4_0 := Mem.lt M4.1
  have f4 := fun j => Mem.free M4.1 j
  go_wp2_with fail
  have hX4 := set_block (M4).1 [.int .i64 0, .int .i64 0, .string ⟨#[]⟩, .string ⟨#[]⟩, .string ⟨#[]⟩] rfl
  have hY4 := below_setCells (B := w.heap.size) hB4 (b := w.heap.size) (by have := hB4.size; omega) 0 [.int .i64 0, .int .i64 0, .string ⟨#[]⟩, .string ⟨#[]⟩, .string ⟨#[]⟩]
  obtain ⟨W_e, hW_e⟩ : ∃ W_e, W_e = w4.setCells (w.heap.size) 0 [.int .i64 0, .int .i64 0, .string ⟨#[]⟩, .string ⟨#[]⟩, .string ⟨#[]⟩] := ⟨_, rfl⟩
  rw [← hW_e] at hX4 hY4
  refine at_world hW_e ?_
  have k_0 := Mem.cell (v := .int .i64 0) hX4 0 rfl
  have k_1 := Mem.cell (v := .int .i64 0) hX4 1 rfl
  have k_2 := Mem.cell (v := .string ⟨#[]⟩) hX4 2 rfl
  have k_3 := Mem.cell (v := .string ⟨#[]⟩) hX4 3 rfl
  have k_4 := Mem.cell (v := .string ⟨#[]⟩) hX4 4 rfl
  refine bodyPost_ret (v := .tuple #[.agg #[.int .i64 0, .int .i64 0, .string ⟨#[]⟩, .string ⟨#[]⟩, .string ⟨#[]⟩], .int .i64 0, .bool false]) (by simp [results, Tryz.results29, go_sem, k_0, k_1, k_2, k_3, k_4]) rfl ⟨rfl, hY4⟩
set_option maxRecDepth 100000 in
set_option maxHeartbeats 1000000 in
theorem vget7_yes (s : ByteArray) (a : Nat) (w : World) (hw : LaidV w) (hs : s.size ≤ 1152921504606846976) (ha : a < s.size) (hix : ∀ W, (Instr.index 9 (.string s) (.int .i64 a)).run Tryz.prog W = .ok (.int .u8 7) W) (m S I : ByteArray) (x : Nat) (y : Int) (h_g : ∀ w, LaidV w → Calls Tryz.prog 53 #[.string s, .int .i64 ((a : Int) + 1)] w fun e w' => e = .returned (.tuple #[.string m, .int .i64 x, .bool true]) ∧ Below w.heap.size w w') (h_l : ∀ w, Calls Tryz.prog 52 #[.string s, .int .i64 (x : Int)] w fun e w' => e = .returned (.tuple #[.agg #[.string S, .string I], .int .i64 y, .bool true]) ∧ Below w.heap.size w w') :
    Calls Tryz.prog 29 #[.string s, .int .i64 a] w fun e w' => e = .returned (.tuple #[.agg #[.int .i64 7, .int .i64 0, .string m, .string S, .string I], .int .i64 y, .bool true]) ∧ Below w.heap.size w w' := by
  have h0 : (0 : Int) ≤ a := by omega
  have h1 : (a : Int) < s.size := by omega
  go_enter Tryz.func29, Tryz.ntmps29
  have hB0 := Below.refl w.heap.size w
  have M0 := Mem.nil w
  have hw0 := hw
  go_wp2_with fail
  refine Calls.named ?_
  intro W1 hW1
  have hB1_ : Below w.heap.size w W1 := by rw [hW1]; exact (below_al hB0 _)
  have hw1_ : LaidV W1 := by rw [hW1]; exact (hw.alloc _)
  have M1_ := (M0).new' (w.heap.size) (by rfl) (.cells #[.int .i64 7, .int .i64 0, .string ⟨#[]⟩, .string ⟨#[]⟩, .string ⟨#[]⟩] 50)
  rw [← hW1] at M1_
  clear hW1
  have ZZ1_0 := Lib.hid (Mem.lt M1_.1)
  refine (h_g _ hw1_).mono ?_
  rintro e w1 ⟨rfl, hb1⟩
  have hB1 := below_then hB1_ hb1
  have hw1 := hw1_.below hb1
  have M1 := M1_.below hb1
  clear M1_ hB1_ hb1 hw1_
  have c1_0_0 := Mem.cell (v := .int .i64 7) M1.1 0 rfl
  have c1_0_1 := Mem.cell (v := .int .i64 0) M1.1 1 rfl
  have c1_0_2 := Mem.cell (v := .string ⟨#[]⟩) M1.1 2 rfl
  have c1_0_3 := Mem.cell (v := .string ⟨#[]⟩) M1.1 3 rfl
  have c1_0_4 := Mem.cell (v := .string ⟨#[]⟩) M1.1 4 rfl
  have z1_0 := Mem.lt M1.1
  have f1 := fun j => Mem.free M1.1 j
  go_upto_region 15 with (fail)
  have hX1 : (w1.setCells (w.heap.size) 2 [.string m]).heap[w.heap.size]? = some (.cells #[.int .i64 7, .int .i64 0, .string m, .string ⟨#[]⟩, .string ⟨#[]⟩] 50) := by rw [setCells_block [.string m] 2 _ _ (M1).1 (by simp)]; rfl
  have hY1 := below_setCells (B := w.heap.size) hB1 (b := w.heap.size) (by have := hB1.size; omega) 2 [.string m]
  refine wp_named ?_
  intro w2 hW2
  have hB2 : Below w.heap.size w w2 := by rw [hW2]; exact hY1
  have hw2 : LaidV w2 := hw0.below hB2
  have M2 : Mem w2 [(w.heap.size, .cells #[.int .i64 7, .int .i64 0, .string m, .string ⟨#[]⟩, .string ⟨#[]⟩] 50)] := by rw [hW2]; exact ⟨hX1, trivial⟩
  clear c1_0_0 c1_0_1 c1_0_2 c1_0_3 c1_0_4 z1_0
  clear hW2 hX1 hY1
  have c2_0_0 := Mem.cell (v := .int .i64 7) M2.1 0 rfl
  have c2_0_1 := Mem.cell (v := .int .i64 0) M2.1 1 rfl
  have c2_0_2 := Mem.cell (v := .string m) M2.1 2 rfl
  have c2_0_3 := Mem.cell (v := .string ⟨#[]⟩) M2.1 3 rfl
  have c2_0_4 := Mem.cell (v := .string ⟨#[]⟩) M2.1 4 rfl
  have z2_0 := Mem.lt M2.1
  go_wp2_with fail
  refine Calls.named ?_
  intro W3 hW3
  have hB3_ : Below w.heap.size w W3 := by rw [hW3]; exact hB2
  have hw3_ : LaidV W3 := by rw [hW3]; exact hw2
  have M3_ := M2
  rw [← hW3] at M3_
  clear hW3
  have ZZ3_0 := Lib.hid (Mem.lt M3_.1)
  clear c2_0_0 c2_0_1 c2_0_2 c2_0_3 c2_0_4 z2_0
  refine (h_l _).mono ?_
  rintro e w3 ⟨rfl, hb3⟩
  have hB3 := below_then hB3_ hb3
  have hw3 := hw3_.below hb3
  have M3 := M3_.below hb3
  clear M3_ hB3_ hb3 hw3_
  have c3_0_0 := Mem.cell (v := .int .i64 7) M3.1 0 rfl
  have c3_0_1 := Mem.cell (v := .int .i64 0) M3.1 1 rfl
  have c3_0_2 := Mem.cell (v := .string m) M3.1 2 rfl
  have c3_0_3 := Mem.cell (v := .string ⟨#[]⟩) M3.1 3 rfl
  have c3_0_4 := Mem.cell (v := .string ⟨#[]⟩) M3.1 4 rfl
  have z3_0 := Mem.lt M3.1
  have f3 := fun j => Mem.free M3.1 j
  go_upto_region 17 with (fail)
  have hX3 : (w3.setCells (w.heap.size) 3 [.string S, .string I]).heap[w.heap.size]? = some (.cells #[.int .i64 7, .int .i64 0, .string m, .string S, .string I] 50) := by rw [setCells_block [.string S, .string I] 3 _ _ (M3).1 (by simp)]; rfl
  have hY3 := below_setCells (B := w.heap.size) hB3 (b := w.heap.size) (by have := hB3.size; omega) 3 [.string S, .string I]
  refine wp_named ?_
  intro w4 hW4
  have hB4 : Below w.heap.size w w4 := by rw [hW4]; exact hY3
  have hw4 : LaidV w4 := hw0.below hB4
  have M4 : Mem w4 [(w.heap.size, .cells #[.int .i64 7, .int .i64 0, .string m, .string S, .string I] 50)] := by rw [hW4]; exact ⟨hX3, trivial⟩
  clear c3_0_0 c3_0_1 c3_0_2 c3_0_3 c3_0_4 z3_0
  clear hW4 hX3 hY3
  have c4_0_0 := Mem.cell (v := .int .i64 7) M4.1 0 rfl
  have c4_0_1 := Mem.cell (v := .int .i64 0) M4.1 1 rfl
  have c4_0_2 := Mem.cell (v := .string m) M4.1 2 rfl
  have c4_0_3 := Mem.cell (v := .string S) M4.1 3 rfl
  have c4_0_4 := Mem.cell (v := .string I) M4.1 4 rfl
  have z4_0 := Mem.lt M4.1
  have f4 := fun j => Mem.free M4.1 j
  go_wp2_with fail
  have hX4 := set_block (M4).1 [.int .i64 7, .int .i64 0, .string m, .string S, .string I] rfl
  have hY4 := below_setCells (B := w.heap.size) hB4 (b := w.heap.size) (by have := hB4.size; omega) 0 [.int .i64 7, .int .i64 0, .string m, .string S, .string I]
  obtain ⟨W_e, hW_e⟩ : ∃ W_e, W_e = w4.setCells (w.heap.size) 0 [.int .i64 7, .int .i64 0, .string m, .string S, .string I] := ⟨_, rfl⟩
  rw [← hW_e] at hX4 hY4
  refine at_world hW_e ?_
  have k_0 := Mem.cell (v := .int .i64 7) hX4 0 rfl
  have k_1 := Mem.cell (v := .int .i64 0) hX4 1 rfl
  have k_2 := Mem.cell (v := .string m) hX4 2 rfl
  have k_3 := Mem.cell (v := .string S) hX4 3 rfl
  have k_4 := Mem.cell (v := .string I) hX4 4 rfl
  refine bodyPost_ret (v := .tuple #[.agg #[.int .i64 7, .int .i64 0, .string m, .string S, .string I], .int .i64 y, .bool true]) (by simp [results, Tryz.results29, go_sem, k_0, k_1, k_2, k_3, k_4]) rfl ⟨rfl, hY4⟩
set_option maxRecDepth 100000 in
set_option maxHeartbeats 1000000 in
theorem vget_other (s : ByteArray) (a : Nat) (w : World) (_ : LaidV w) (hs : s.size ≤ 1152921504606846976) (ha : a < s.size) (c : Nat) (hix : ∀ W, (Instr.index 9 (.string s) (.int .i64 a)).run Tryz.prog W = .ok (.int .u8 c) W) (hc : c = 0 ∨ 7 < c) (hc2 : c < 256) :
    Calls Tryz.prog 29 #[.string s, .int .i64 a] w fun e w' => e = vgetE none 0 ∧ Below w.heap.size w w' := by
  have h0 : (0 : Int) ≤ a := by omega
  have h1 : (a : Int) < s.size := by omega
  have hwr : wrap64 (c : Int) = c := by first | exact IntWalk.i64_in _ (by omega) | (simp [wrap64]; omega)
  have k1 := int_ne (k := (c : Int)) (j := 1) (by omega)
  have k2 := int_ne (k := (c : Int)) (j := 2) (by omega)
  have k3 := int_ne (k := (c : Int)) (j := 3) (by omega)
  have k4 := int_ne (k := (c : Int)) (j := 4) (by omega)
  have k5 := int_ne (k := (c : Int)) (j := 5) (by omega)
  have k6 := int_ne (k := (c : Int)) (j := 6) (by omega)
  have k7 := int_ne (k := (c : Int)) (j := 7) (by omega)
  clear hc
  go_enter Tryz.func29, Tryz.ntmps29
  have hB0 := Below.refl w.heap.size w
  have M0 := Mem.nil w
  go_wp2_with fail
  refine bodyPost_ret (v := .tuple #[.agg #[.int .i64 0, .int .i64 0, .string ⟨#[]⟩, .string ⟨#[]⟩, .string ⟨#[]⟩], .int .i64 0, .bool false]) (by simp [results, Tryz.results29, go_sem]) rfl ⟨rfl, below_al hB0 _⟩
end Go.Proofs.YtecoeaeonedmnaaGreatDoor
/- val.Get whole; the law's few; the chapter's examples. -/
namespace Go.Proofs.YtecoeaeonedmnaaGreatDoor
open Go.RowKit
theorem str_of (m : List UInt8) : (⟨(m : List UInt8).toArray⟩ : ByteArray).data.toList = m := rfl
theorem vget_any (s : ByteArray) (a : Nat) (w : World) (hs : s.size ≤ 1152921504606846976) (hw : LaidV w) :
    Calls Tryz.prog 29 #[.string s, .int .i64 a] w fun e w' => e = vgetE (getV (s.data.toList.drop a)) a ∧ Below w.heap.size w w' := by
  have hL : s.data.toList.length = s.size := Array.length_toList
  have none0 : ∀ x, vgetE none x = vgetE none 0 := fun _ => rfl
  rcases Nat.lt_or_ge a s.size with ha | ha
  · have hd := drop_cons (L := s.data.toList) (a := a) (by omega)
    have hix := index_str Tryz.underlying9 s rfl a ha
    have ea : ((a + 1 : Nat) : Int) = (a : Int) + 1 := by omega
    obtain ⟨c, hc⟩ : ∃ c, c = s.data.toList.getD a 0 := ⟨_, rfl⟩
    rw [← hc] at hd hix
    rw [hd, getV]
    have hlb := fun (x : Nat) w => lget_any s x w hs
    by_cases k1 : c.toNat = 1
    · rw [if_pos k1]
      rw [k1] at hix
      have hn := fun w => nget_b s ((a : Int) + 1) w hs
      have hsh := getR_shift s.data.toList (a + 1)
      rw [ea] at hsh
      cases hr : getR (s.data.toList.drop (a + 1)) 0 with
      | none =>
        rw [hr] at hsh
        rw [hsh] at hn
        exact vget1_no s a w hs ha hix hn
      | some p =>
        obtain ⟨n, x⟩ := p
        rw [hr] at hsh
        rw [hsh] at hn
        refine (vget1_yes s a w hs ha hix n _ hn).mono ?_
        rintro e w' ⟨rfl, hb⟩
        obtain ⟨h1, h2, h3, h4⟩ := getR_zero hr
        refine ⟨?_, hb⟩
        show _ = vgetE (some (⟨1, n, [], ⟨[], []⟩⟩, x.toNat + 1)) a
        unfold vgetE
        simp only
        rw [show ((a + (x.toNat + 1) : Nat) : Int) = (a : Int) + 1 + x by omega]
        rfl
    · rw [if_neg k1]
      by_cases k2 : c.toNat = 2
      · rw [if_pos k2]
        rw [k2] at hix
        have hl := hlb (a + 1)
        rw [ea] at hl
        cases hr : getLb (s.data.toList.drop (a + 1)) with
        | none =>
          rw [hr] at hl
          exact vget2_no s a w hs ha hix hl
        | some p =>
          obtain ⟨b, n⟩ := p
          rw [hr] at hl
          refine (vget2_yes s a w hs ha hix _ _ _ hl).mono ?_
          rintro e w' ⟨rfl, hb⟩
          refine ⟨?_, hb⟩
          show _ = vgetE (some (⟨2, 0, [], b⟩, n + 1)) a
          unfold vgetE
          simp only
          rw [show a + 1 + n = a + (n + 1) by omega]
      · rw [if_neg k2]
        by_cases k3 : 3 ≤ c.toNat ∧ c.toNat ≤ 7
        · rw [if_pos k3]
          have hg := fun w hw => gn_any s (a + 1) w hs hw
          rw [ea] at hg
          have hcase : c.toNat = 3 ∨ c.toNat = 4 ∨ c.toNat = 5 ∨ c.toNat = 6 ∨ c.toNat = 7 := by omega
          cases hm : getNm (s.data.toList.drop (a + 1)) with
          | none =>
            rw [hm] at hg
            rcases hcase with k | k | k | k | k <;> rw [k] at hix
            · exact vget3_no s a w hw hs ha hix hg
            · exact vget4_no s a w hw hs ha hix hg
            · exact vget5_no s a w hw hs ha hix hg
            · exact vget6_no s a w hw hs ha hix hg
            · exact vget7_no s a w hw hs ha hix hg
          | some p =>
            obtain ⟨m, n⟩ := p
            rw [hm] at hg
            simp only
            have hl := hlb (a + 1 + n)
            have ed : s.data.toList.drop (a + 1 + n) = (s.data.toList.drop (a + 1)).drop n := by rw [List.drop_drop]
            rw [ed] at hl
            cases hr : getLb ((s.data.toList.drop (a + 1)).drop n) with
            | none =>
              rw [hr] at hl
              rcases hcase with k | k | k | k | k <;> rw [k] at hix
              · exact vget3_no2 s a w hw hs ha hix _ _ hg hl
              · exact vget4_no2 s a w hw hs ha hix _ _ hg hl
              · exact vget5_no2 s a w hw hs ha hix _ _ hg hl
              · exact vget6_no2 s a w hw hs ha hix _ _ hg hl
              · exact vget7_no2 s a w hw hs ha hix _ _ hg hl
            | some q =>
              obtain ⟨b, n2⟩ := q
              rw [hr] at hl
              have fin : ∀ K : Nat, c.toNat = K → Ending.returned (.tuple #[.agg #[.int .i64 (K : Int), .int .i64 0, .string ⟨m.toArray⟩, .string ⟨b.S.toArray⟩, .string ⟨b.I.toArray⟩], .int .i64 ((a + 1 + n + n2 : Nat) : Int), .bool true]) = vgetE (some (⟨c.toNat, 0, m, b⟩, n + n2 + 1)) a := by
                intro K hK
                unfold vgetE
                simp only
                rw [hK, show a + 1 + n + n2 = a + (n + n2 + 1) by omega]
              rcases hcase with k | k | k | k | k <;> rw [k] at hix
              · refine (vget3_yes s a w hw hs ha hix _ _ _ _ _ hg hl).mono ?_
                rintro e w' ⟨rfl, hb⟩
                exact ⟨fin 3 k, hb⟩
              · refine (vget4_yes s a w hw hs ha hix _ _ _ _ _ hg hl).mono ?_
                rintro e w' ⟨rfl, hb⟩
                exact ⟨fin 4 k, hb⟩
              · refine (vget5_yes s a w hw hs ha hix _ _ _ _ _ hg hl).mono ?_
                rintro e w' ⟨rfl, hb⟩
                exact ⟨fin 5 k, hb⟩
              · refine (vget6_yes s a w hw hs ha hix _ _ _ _ _ hg hl).mono ?_
                rintro e w' ⟨rfl, hb⟩
                exact ⟨fin 6 k, hb⟩
              · refine (vget7_yes s a w hw hs ha hix _ _ _ _ _ hg hl).mono ?_
                rintro e w' ⟨rfl, hb⟩
                exact ⟨fin 7 k, hb⟩
        · rw [if_neg k3]
          exact vget_other s a w hw hs ha c.toNat hix (by omega) c.toNat_lt
  · have e : s.data.toList.drop a = [] := List.drop_of_length_le (by omega)
    rw [e]
    exact vget_high s a w hs (by omega)
end Go.Proofs.YtecoeaeonedmnaaGreatDoor
