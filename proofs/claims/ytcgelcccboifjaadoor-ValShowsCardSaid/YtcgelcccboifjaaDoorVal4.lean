/- val.Get. -/
import Derived.Test.YtcgelcccboifjaaDoorVal3
import Derived.Test.YtcgelcccboifjaaDoorNumGet
namespace Go.Proofs.YtcgelcccboifjaaDoor
open Go.RowKit
/-- what Get hands back at a place, out of what stands there -/
def vgetE (r : Option (Vl × Nat)) (a : Nat) : Ending := match r with
  | none => .returned (.tuple #[.agg #[.int .i64 0, .int .i64 0, .string ⟨#[]⟩, .string ⟨#[]⟩, .string ⟨#[]⟩], .int .i64 0, .bool false])
  | some (v, n) => .returned (.tuple #[.agg #[.int .i64 v.k, .int .i64 v.n, .string ⟨v.nm.toArray⟩, .string ⟨v.l.S.toArray⟩, .string ⟨v.l.I.toArray⟩], .int .i64 ((a + n : Nat) : Int), .bool true])
theorem nget_b (s : ByteArray) (a : Int) (w : World) (hs : s.size ≤ 1152921504606846976) :
    Calls Tryd.prog 24 #[.string s, .int .i64 a] w fun e w' => e = getEnd (getR s.data.toList a) ∧ Below w.heap.size w w' := by
  refine (get_any s a w (by unfold maxLen; omega)).mono ?_
  rintro e w' ⟨rfl, rfl⟩
  exact ⟨rfl, Below.refl _ _⟩
set_option maxRecDepth 100000 in
set_option maxHeartbeats 1000000 in
theorem vget_low (s : ByteArray) (a : Int) (w : World) (ha : a < 0) :
    Calls Tryd.prog 13 #[.string s, .int .i64 a] w fun e w' => e = vgetE none 0 ∧ Below w.heap.size w w' := by
  go_enter Tryd.func13, Tryd.ntmps13
  have hB0 := Below.refl w.heap.size w
  have M0 := Mem.nil w
  go_wp2_with fail
  refine bodyPost_ret (v := .tuple #[.agg #[.int .i64 0, .int .i64 0, .string ⟨#[]⟩, .string ⟨#[]⟩, .string ⟨#[]⟩], .int .i64 0, .bool false]) (by simp [results, Tryd.results13, go_sem]) rfl ⟨rfl, below_al hB0 _⟩
set_option maxRecDepth 100000 in
set_option maxHeartbeats 1000000 in
theorem vget_high (s : ByteArray) (a : Nat) (w : World) (_hs : s.size ≤ 1152921504606846976) (ha : (s.size : Int) ≤ a) :
    Calls Tryd.prog 13 #[.string s, .int .i64 a] w fun e w' => e = vgetE none 0 ∧ Below w.heap.size w w' := by
  have h0 : (0 : Int) ≤ a := by omega
  go_enter Tryd.func13, Tryd.ntmps13
  have hB0 := Below.refl w.heap.size w
  have M0 := Mem.nil w
  go_wp2_with fail
  refine bodyPost_ret (v := .tuple #[.agg #[.int .i64 0, .int .i64 0, .string ⟨#[]⟩, .string ⟨#[]⟩, .string ⟨#[]⟩], .int .i64 0, .bool false]) (by simp [results, Tryd.results13, go_sem]) rfl ⟨rfl, below_al hB0 _⟩
set_option maxRecDepth 100000 in
set_option maxHeartbeats 1000000 in
theorem vget1_no (s : ByteArray) (a : Nat) (w : World) (hs : s.size ≤ 1152921504606846976) (ha : a < s.size) (hix : ∀ W, (Instr.index 9 (.string s) (.int .i64 a)).run Tryd.prog W = .ok (.int .u8 1) W) (h_n : ∀ w, Calls Tryd.prog 24 #[.string s, .int .i64 ((a : Int) + 1)] w fun e w' => e = .returned (.tuple #[.int .i64 0, .int .i64 0, .bool false]) ∧ Below w.heap.size w w') :
    Calls Tryd.prog 13 #[.string s, .int .i64 a] w fun e w' => e = vgetE none 0 ∧ Below w.heap.size w w' := by
  have h0 : (0 : Int) ≤ a := by omega
  have h1 : (a : Int) < s.size := by omega
  go_enter Tryd.func13, Tryd.ntmps13
  have hB0 := Below.refl w.heap.size w
  have M0 := Mem.nil w
  go_wp2_with fail
  refine Calls.named ?_
  intro W1 hW1
  have hB1_ : Below w.heap.size w W1 := by rw [hW1]; exact (below_al hB0 _)
  have M1_ := (M0).new' (w.heap.size) (by rfl) (.cells #[.int .i64 1, .int .i64 0, .string ⟨#[]⟩, .string ⟨#[]⟩, .string ⟨#[]⟩] 26)
  rw [← hW1] at M1_
  clear hW1
  have ZZ1_0 := Lib.hid (Mem.lt M1_.1)
  refine (h_n _).mono ?_
  rintro e w1 ⟨rfl, hb1⟩
  have hB1 := below_then hB1_ hb1
  have M1 := M1_.below hb1
  clear M1_ hB1_ hb1
  have c1_0_0 := Mem.cell (v := .int .i64 1) M1.1 0 rfl
  have c1_0_1 := Mem.cell (v := .int .i64 0) M1.1 1 rfl
  have c1_0_2 := Mem.cell (v := .string ⟨#[]⟩) M1.1 2 rfl
  have c1_0_3 := Mem.cell (v := .string ⟨#[]⟩) M1.1 3 rfl
  have c1_0_4 := Mem.cell (v := .string ⟨#[]⟩) M1.1 4 rfl
  have z1_0 := Mem.lt M1.1
  have f1 := fun j => Mem.free M1.1 j
  go_upto_region 17 with (fail)
  have hX1 : (w1.setCells (w.heap.size) 1 [.int .i64 0]).heap[w.heap.size]? = some (.cells #[.int .i64 1, .int .i64 0, .string ⟨#[]⟩, .string ⟨#[]⟩, .string ⟨#[]⟩] 26) := by rw [setCells_block [.int .i64 0] 1 _ _ (M1).1 (by simp)]; rfl
  have hY1 := below_setCells (B := w.heap.size) hB1 (b := w.heap.size) (by have := hB1.size; omega) 1 [.int .i64 0]
  refine wp_named ?_
  intro w2 hW2
  have hB2 : Below w.heap.size w w2 := by rw [hW2]; exact hY1
  have M2 : Mem w2 [(w.heap.size, .cells #[.int .i64 1, .int .i64 0, .string ⟨#[]⟩, .string ⟨#[]⟩, .string ⟨#[]⟩] 26)] := by rw [hW2]; exact ⟨hX1, trivial⟩
  clear c1_0_0 c1_0_1 c1_0_2 c1_0_3 c1_0_4 z1_0
  clear hW2 hX1 hY1
  have c2_0_0 := Mem.cell (v := .int .i64 1) M2.1 0 rfl
  have c2_0_1 := Mem.cell (v := .int .i64 0) M2.1 1 rfl
  have c2_0_2 := Mem.cell (v := .string ⟨#[]⟩) M2.1 2 rfl
  have c2_0_3 := Mem.cell (v := .string ⟨#[]⟩) M2.1 3 rfl
  have c2_0_4 := Mem.cell (v := .string ⟨#[]⟩) M2.1 4 rfl
  have z2_0 := Mem.lt M2.1
  have f2 := fun j => Mem.free M2.1 j
  go_wp2_with fail
  have hX2 := set_block (M2).1 [.int .i64 0, .int .i64 0, .string ⟨#[]⟩, .string ⟨#[]⟩, .string ⟨#[]⟩] rfl
  have hY2 := below_setCells (B := w.heap.size) hB2 (b := w.heap.size) (by have := hB2.size; omega) 0 [.int .i64 0, .int .i64 0, .string ⟨#[]⟩, .string ⟨#[]⟩, .string ⟨#[]⟩]
  obtain ⟨W_e, hW_e⟩ : ∃ W_e, W_e = w2.setCells (w.heap.size) 0 [.int .i64 0, .int .i64 0, .string ⟨#[]⟩, .string ⟨#[]⟩, .string ⟨#[]⟩] := ⟨_, rfl⟩
  rw [← hW_e] at hX2 hY2
  refine at_world hW_e ?_
  have k_0 := Mem.cell (v := .int .i64 0) hX2 0 rfl
  have k_1 := Mem.cell (v := .int .i64 0) hX2 1 rfl
  have k_2 := Mem.cell (v := .string ⟨#[]⟩) hX2 2 rfl
  have k_3 := Mem.cell (v := .string ⟨#[]⟩) hX2 3 rfl
  have k_4 := Mem.cell (v := .string ⟨#[]⟩) hX2 4 rfl
  refine bodyPost_ret (v := .tuple #[.agg #[.int .i64 0, .int .i64 0, .string ⟨#[]⟩, .string ⟨#[]⟩, .string ⟨#[]⟩], .int .i64 0, .bool false]) (by simp [results, Tryd.results13, go_sem, k_0, k_1, k_2, k_3, k_4]) rfl ⟨rfl, hY2⟩
set_option maxRecDepth 100000 in
set_option maxHeartbeats 1000000 in
theorem vget1_yes (s : ByteArray) (a : Nat) (w : World) (hs : s.size ≤ 1152921504606846976) (ha : a < s.size) (hix : ∀ W, (Instr.index 9 (.string s) (.int .i64 a)).run Tryd.prog W = .ok (.int .u8 1) W) (n x : Int) (h_n : ∀ w, Calls Tryd.prog 24 #[.string s, .int .i64 ((a : Int) + 1)] w fun e w' => e = .returned (.tuple #[.int .i64 n, .int .i64 x, .bool true]) ∧ Below w.heap.size w w') :
    Calls Tryd.prog 13 #[.string s, .int .i64 a] w fun e w' => e = .returned (.tuple #[.agg #[.int .i64 1, .int .i64 n, .string ⟨#[]⟩, .string ⟨#[]⟩, .string ⟨#[]⟩], .int .i64 x, .bool true]) ∧ Below w.heap.size w w' := by
  have h0 : (0 : Int) ≤ a := by omega
  have h1 : (a : Int) < s.size := by omega
  go_enter Tryd.func13, Tryd.ntmps13
  have hB0 := Below.refl w.heap.size w
  have M0 := Mem.nil w
  go_wp2_with fail
  refine Calls.named ?_
  intro W1 hW1
  have hB1_ : Below w.heap.size w W1 := by rw [hW1]; exact (below_al hB0 _)
  have M1_ := (M0).new' (w.heap.size) (by rfl) (.cells #[.int .i64 1, .int .i64 0, .string ⟨#[]⟩, .string ⟨#[]⟩, .string ⟨#[]⟩] 26)
  rw [← hW1] at M1_
  clear hW1
  have ZZ1_0 := Lib.hid (Mem.lt M1_.1)
  refine (h_n _).mono ?_
  rintro e w1 ⟨rfl, hb1⟩
  have hB1 := below_then hB1_ hb1
  have M1 := M1_.below hb1
  clear M1_ hB1_ hb1
  have c1_0_0 := Mem.cell (v := .int .i64 1) M1.1 0 rfl
  have c1_0_1 := Mem.cell (v := .int .i64 0) M1.1 1 rfl
  have c1_0_2 := Mem.cell (v := .string ⟨#[]⟩) M1.1 2 rfl
  have c1_0_3 := Mem.cell (v := .string ⟨#[]⟩) M1.1 3 rfl
  have c1_0_4 := Mem.cell (v := .string ⟨#[]⟩) M1.1 4 rfl
  have z1_0 := Mem.lt M1.1
  have f1 := fun j => Mem.free M1.1 j
  go_upto_region 17 with (fail)
  have hX1 : (w1.setCells (w.heap.size) 1 [.int .i64 n]).heap[w.heap.size]? = some (.cells #[.int .i64 1, .int .i64 n, .string ⟨#[]⟩, .string ⟨#[]⟩, .string ⟨#[]⟩] 26) := by rw [setCells_block [.int .i64 n] 1 _ _ (M1).1 (by simp)]; rfl
  have hY1 := below_setCells (B := w.heap.size) hB1 (b := w.heap.size) (by have := hB1.size; omega) 1 [.int .i64 n]
  refine wp_named ?_
  intro w2 hW2
  have hB2 : Below w.heap.size w w2 := by rw [hW2]; exact hY1
  have M2 : Mem w2 [(w.heap.size, .cells #[.int .i64 1, .int .i64 n, .string ⟨#[]⟩, .string ⟨#[]⟩, .string ⟨#[]⟩] 26)] := by rw [hW2]; exact ⟨hX1, trivial⟩
  clear c1_0_0 c1_0_1 c1_0_2 c1_0_3 c1_0_4 z1_0
  clear hW2 hX1 hY1
  have c2_0_0 := Mem.cell (v := .int .i64 1) M2.1 0 rfl
  have c2_0_1 := Mem.cell (v := .int .i64 n) M2.1 1 rfl
  have c2_0_2 := Mem.cell (v := .string ⟨#[]⟩) M2.1 2 rfl
  have c2_0_3 := Mem.cell (v := .string ⟨#[]⟩) M2.1 3 rfl
  have c2_0_4 := Mem.cell (v := .string ⟨#[]⟩) M2.1 4 rfl
  have z2_0 := Mem.lt M2.1
  have f2 := fun j => Mem.free M2.1 j
  go_wp2_with fail
  have hX2 := set_block (M2).1 [.int .i64 1, .int .i64 n, .string ⟨#[]⟩, .string ⟨#[]⟩, .string ⟨#[]⟩] rfl
  have hY2 := below_setCells (B := w.heap.size) hB2 (b := w.heap.size) (by have := hB2.size; omega) 0 [.int .i64 1, .int .i64 n, .string ⟨#[]⟩, .string ⟨#[]⟩, .string ⟨#[]⟩]
  obtain ⟨W_e, hW_e⟩ : ∃ W_e, W_e = w2.setCells (w.heap.size) 0 [.int .i64 1, .int .i64 n, .string ⟨#[]⟩, .string ⟨#[]⟩, .string ⟨#[]⟩] := ⟨_, rfl⟩
  rw [← hW_e] at hX2 hY2
  refine at_world hW_e ?_
  have k_0 := Mem.cell (v := .int .i64 1) hX2 0 rfl
  have k_1 := Mem.cell (v := .int .i64 n) hX2 1 rfl
  have k_2 := Mem.cell (v := .string ⟨#[]⟩) hX2 2 rfl
  have k_3 := Mem.cell (v := .string ⟨#[]⟩) hX2 3 rfl
  have k_4 := Mem.cell (v := .string ⟨#[]⟩) hX2 4 rfl
  refine bodyPost_ret (v := .tuple #[.agg #[.int .i64 1, .int .i64 n, .string ⟨#[]⟩, .string ⟨#[]⟩, .string ⟨#[]⟩], .int .i64 x, .bool true]) (by simp [results, Tryd.results13, go_sem, k_0, k_1, k_2, k_3, k_4]) rfl ⟨rfl, hY2⟩
set_option maxRecDepth 100000 in
set_option maxHeartbeats 1000000 in
theorem vget2_no (s : ByteArray) (a : Nat) (w : World) (hs : s.size ≤ 1152921504606846976) (ha : a < s.size) (hix : ∀ W, (Instr.index 9 (.string s) (.int .i64 a)).run Tryd.prog W = .ok (.int .u8 2) W) (h_l : ∀ w, Calls Tryd.prog 25 #[.string s, .int .i64 ((a : Int) + 1)] w fun e w' => e = .returned (.tuple #[.agg #[.string ⟨#[]⟩, .string ⟨#[]⟩], .int .i64 0, .bool false]) ∧ Below w.heap.size w w') :
    Calls Tryd.prog 13 #[.string s, .int .i64 a] w fun e w' => e = vgetE none 0 ∧ Below w.heap.size w w' := by
  have h0 : (0 : Int) ≤ a := by omega
  have h1 : (a : Int) < s.size := by omega
  go_enter Tryd.func13, Tryd.ntmps13
  have hB0 := Below.refl w.heap.size w
  have M0 := Mem.nil w
  go_wp2_with fail
  refine Calls.named ?_
  intro W1 hW1
  have hB1_ : Below w.heap.size w W1 := by rw [hW1]; exact (below_al hB0 _)
  have M1_ := (M0).new' (w.heap.size) (by rfl) (.cells #[.int .i64 2, .int .i64 0, .string ⟨#[]⟩, .string ⟨#[]⟩, .string ⟨#[]⟩] 26)
  rw [← hW1] at M1_
  clear hW1
  have ZZ1_0 := Lib.hid (Mem.lt M1_.1)
  refine (h_l _).mono ?_
  rintro e w1 ⟨rfl, hb1⟩
  have hB1 := below_then hB1_ hb1
  have M1 := M1_.below hb1
  clear M1_ hB1_ hb1
  have c1_0_0 := Mem.cell (v := .int .i64 2) M1.1 0 rfl
  have c1_0_1 := Mem.cell (v := .int .i64 0) M1.1 1 rfl
  have c1_0_2 := Mem.cell (v := .string ⟨#[]⟩) M1.1 2 rfl
  have c1_0_3 := Mem.cell (v := .string ⟨#[]⟩) M1.1 3 rfl
  have c1_0_4 := Mem.cell (v := .string ⟨#[]⟩) M1.1 4 rfl
  have z1_0 := Mem.lt M1.1
  have f1 := fun j => Mem.free M1.1 j
  go_upto_region 17 with (fail)
  have hX1 : (w1.setCells (w.heap.size) 3 [.string ⟨#[]⟩, .string ⟨#[]⟩]).heap[w.heap.size]? = some (.cells #[.int .i64 2, .int .i64 0, .string ⟨#[]⟩, .string ⟨#[]⟩, .string ⟨#[]⟩] 26) := by rw [setCells_block [.string ⟨#[]⟩, .string ⟨#[]⟩] 3 _ _ (M1).1 (by simp)]; rfl
  have hY1 := below_setCells (B := w.heap.size) hB1 (b := w.heap.size) (by have := hB1.size; omega) 3 [.string ⟨#[]⟩, .string ⟨#[]⟩]
  refine wp_named ?_
  intro w2 hW2
  have hB2 : Below w.heap.size w w2 := by rw [hW2]; exact hY1
  have M2 : Mem w2 [(w.heap.size, .cells #[.int .i64 2, .int .i64 0, .string ⟨#[]⟩, .string ⟨#[]⟩, .string ⟨#[]⟩] 26)] := by rw [hW2]; exact ⟨hX1, trivial⟩
  clear c1_0_0 c1_0_1 c1_0_2 c1_0_3 c1_0_4 z1_0
  clear hW2 hX1 hY1
  have c2_0_0 := Mem.cell (v := .int .i64 2) M2.1 0 rfl
  have c2_0_1 := Mem.cell (v := .int .i64 0) M2.1 1 rfl
  have c2_0_2 := Mem.cell (v := .string ⟨#[]⟩) M2.1 2 rfl
  have c2_0_3 := Mem.cell (v := .string ⟨#[]⟩) M2.1 3 rfl
  have c2_0_4 := Mem.cell (v := .string ⟨#[]⟩) M2.1 4 rfl
  have z2_0 := Mem.lt M2.1
  have f2 := fun j => Mem.free M2.1 j
  go_wp2_with fail
  have hX2 := set_block (M2).1 [.int .i64 0, .int .i64 0, .string ⟨#[]⟩, .string ⟨#[]⟩, .string ⟨#[]⟩] rfl
  have hY2 := below_setCells (B := w.heap.size) hB2 (b := w.heap.size) (by have := hB2.size; omega) 0 [.int .i64 0, .int .i64 0, .string ⟨#[]⟩, .string ⟨#[]⟩, .string ⟨#[]⟩]
  obtain ⟨W_e, hW_e⟩ : ∃ W_e, W_e = w2.setCells (w.heap.size) 0 [.int .i64 0, .int .i64 0, .string ⟨#[]⟩, .string ⟨#[]⟩, .string ⟨#[]⟩] := ⟨_, rfl⟩
  rw [← hW_e] at hX2 hY2
  refine at_world hW_e ?_
  have k_0 := Mem.cell (v := .int .i64 0) hX2 0 rfl
  have k_1 := Mem.cell (v := .int .i64 0) hX2 1 rfl
  have k_2 := Mem.cell (v := .string ⟨#[]⟩) hX2 2 rfl
  have k_3 := Mem.cell (v := .string ⟨#[]⟩) hX2 3 rfl
  have k_4 := Mem.cell (v := .string ⟨#[]⟩) hX2 4 rfl
  refine bodyPost_ret (v := .tuple #[.agg #[.int .i64 0, .int .i64 0, .string ⟨#[]⟩, .string ⟨#[]⟩, .string ⟨#[]⟩], .int .i64 0, .bool false]) (by simp [results, Tryd.results13, go_sem, k_0, k_1, k_2, k_3, k_4]) rfl ⟨rfl, hY2⟩
set_option maxRecDepth 100000 in
set_option maxHeartbeats 1000000 in
theorem vget2_yes (s : ByteArray) (a : Nat) (w : World) (hs : s.size ≤ 1152921504606846976) (ha : a < s.size) (hix : ∀ W, (Instr.index 9 (.string s) (.int .i64 a)).run Tryd.prog W = .ok (.int .u8 2) W) (S I : ByteArray) (x : Int) (h_l : ∀ w, Calls Tryd.prog 25 #[.string s, .int .i64 ((a : Int) + 1)] w fun e w' => e = .returned (.tuple #[.agg #[.string S, .string I], .int .i64 x, .bool true]) ∧ Below w.heap.size w w') :
    Calls Tryd.prog 13 #[.string s, .int .i64 a] w fun e w' => e = .returned (.tuple #[.agg #[.int .i64 2, .int .i64 0, .string ⟨#[]⟩, .string S, .string I], .int .i64 x, .bool true]) ∧ Below w.heap.size w w' := by
  have h0 : (0 : Int) ≤ a := by omega
  have h1 : (a : Int) < s.size := by omega
  go_enter Tryd.func13, Tryd.ntmps13
  have hB0 := Below.refl w.heap.size w
  have M0 := Mem.nil w
  go_wp2_with fail
  refine Calls.named ?_
  intro W1 hW1
  have hB1_ : Below w.heap.size w W1 := by rw [hW1]; exact (below_al hB0 _)
  have M1_ := (M0).new' (w.heap.size) (by rfl) (.cells #[.int .i64 2, .int .i64 0, .string ⟨#[]⟩, .string ⟨#[]⟩, .string ⟨#[]⟩] 26)
  rw [← hW1] at M1_
  clear hW1
  have ZZ1_0 := Lib.hid (Mem.lt M1_.1)
  refine (h_l _).mono ?_
  rintro e w1 ⟨rfl, hb1⟩
  have hB1 := below_then hB1_ hb1
  have M1 := M1_.below hb1
  clear M1_ hB1_ hb1
  have c1_0_0 := Mem.cell (v := .int .i64 2) M1.1 0 rfl
  have c1_0_1 := Mem.cell (v := .int .i64 0) M1.1 1 rfl
  have c1_0_2 := Mem.cell (v := .string ⟨#[]⟩) M1.1 2 rfl
  have c1_0_3 := Mem.cell (v := .string ⟨#[]⟩) M1.1 3 rfl
  have c1_0_4 := Mem.cell (v := .string ⟨#[]⟩) M1.1 4 rfl
  have z1_0 := Mem.lt M1.1
  have f1 := fun j => Mem.free M1.1 j
  go_upto_region 17 with (fail)
  have hX1 : (w1.setCells (w.heap.size) 3 [.string S, .string I]).heap[w.heap.size]? = some (.cells #[.int .i64 2, .int .i64 0, .string ⟨#[]⟩, .string S, .string I] 26) := by rw [setCells_block [.string S, .string I] 3 _ _ (M1).1 (by simp)]; rfl
  have hY1 := below_setCells (B := w.heap.size) hB1 (b := w.heap.size) (by have := hB1.size; omega) 3 [.string S, .string I]
  refine wp_named ?_
  intro w2 hW2
  have hB2 : Below w.heap.size w w2 := by rw [hW2]; exact hY1
  have M2 : Mem w2 [(w.heap.size, .cells #[.int .i64 2, .int .i64 0, .string ⟨#[]⟩, .string S, .string I] 26)] := by rw [hW2]; exact ⟨hX1, trivial⟩
  clear c1_0_0 c1_0_1 c1_0_2 c1_0_3 c1_0_4 z1_0
  clear hW2 hX1 hY1
  have c2_0_0 := Mem.cell (v := .int .i64 2) M2.1 0 rfl
  have c2_0_1 := Mem.cell (v := .int .i64 0) M2.1 1 rfl
  have c2_0_2 := Mem.cell (v := .string ⟨#[]⟩) M2.1 2 rfl
  have c2_0_3 := Mem.cell (v := .string S) M2.1 3 rfl
  have c2_0_4 := Mem.cell (v := .string I) M2.1 4 rfl
  have z2_0 := Mem.lt M2.1
  have f2 := fun j => Mem.free M2.1 j
  go_wp2_with fail
  have hX2 := set_block (M2).1 [.int .i64 2, .int .i64 0, .string ⟨#[]⟩, .string S, .string I] rfl
  have hY2 := below_setCells (B := w.heap.size) hB2 (b := w.heap.size) (by have := hB2.size; omega) 0 [.int .i64 2, .int .i64 0, .string ⟨#[]⟩, .string S, .string I]
  obtain ⟨W_e, hW_e⟩ : ∃ W_e, W_e = w2.setCells (w.heap.size) 0 [.int .i64 2, .int .i64 0, .string ⟨#[]⟩, .string S, .string I] := ⟨_, rfl⟩
  rw [← hW_e] at hX2 hY2
  refine at_world hW_e ?_
  have k_0 := Mem.cell (v := .int .i64 2) hX2 0 rfl
  have k_1 := Mem.cell (v := .int .i64 0) hX2 1 rfl
  have k_2 := Mem.cell (v := .string ⟨#[]⟩) hX2 2 rfl
  have k_3 := Mem.cell (v := .string S) hX2 3 rfl
  have k_4 := Mem.cell (v := .string I) hX2 4 rfl
  refine bodyPost_ret (v := .tuple #[.agg #[.int .i64 2, .int .i64 0, .string ⟨#[]⟩, .string S, .string I], .int .i64 x, .bool true]) (by simp [results, Tryd.results13, go_sem, k_0, k_1, k_2, k_3, k_4]) rfl ⟨rfl, hY2⟩
end Go.Proofs.YtcgelcccboifjaaDoor
