/- op.Right, op.size, op.Put, op.Text. -/
import Derived.Test.YtecoeaeonedmnaaGreatDoorOpTab
import Derived.Test.YtecoeaeonedmnaaGreatDoorZ7
namespace Go.Proofs.YtecoeaeonedmnaaGreatDoor
open Go.RowKit
theorem LaidOp.alloc {w : World} (h : LaidOp w) (o : Obj) : LaidOp (w.alloc o) := h.below ((Below.refl _ _).alloc (Nat.le_refl _) _)
theorem below_alloc_then {w w1 : World} {o : Obj} (h : Below (w.alloc o).heap.size (w.alloc o) w1) : Below w.heap.size w w1 := below_two ((Below.refl _ _).alloc (Nat.le_refl _) _) h
theorem right_any (c a : Int) (w : World) (hw : LaidOp w) : Calls Tryz.prog 43 #[.agg #[.int .i64 c, .int .i64 a]] w fun e w' => e = .returned (.bool (rightB c a)) ∧ Below w.heap.size w w' := by
  cases hk : aOk c with
  | false =>
    have hf : Hid (rightB c a = false) := Lib.hid (by unfold rightB; rw [hk]; rfl)
    have HK := Lib.hid hk
    clear hk
    go_enter Tryz.func43, Tryz.ntmps43
    go_wp2_with fail
    refine (about_any _ _ (hw.alloc _)).mono ?_
    rw [HK.out, Bool.and_false]
    rintro e w1 ⟨rfl, hb1⟩
    obtain ⟨hc1, hf1⟩ := bcell hb1
    have hz1 : w.heap.size < w1.heap.size := by have := hb1.size; simp at this; omega
    go_wp2_with fail
    go_ret
    exact ⟨ret_bool hf.out.symm, (below_alloc_then hb1).alloc (by omega) _⟩
  | true =>
    have HK := Lib.hid hk
    clear hk
    by_cases h0 : aArg c = 0
    · have hf : Hid (rightB c a = (a == 0)) := Lib.hid (by unfold rightB; rw [HK.out, if_pos h0]; rfl)
      have t0 : (aArg c == 0) = true := beq_iff_eq.2 h0
      clear h0
      go_enter Tryz.func43, Tryz.ntmps43
      go_wp2_with fail
      refine (about_any _ _ (hw.alloc _)).mono ?_
      rw [HK.out, Bool.and_true]
      rintro e w1 ⟨rfl, hb1⟩
      obtain ⟨hc1, hf1⟩ := bcell hb1
      have hz1 : w.heap.size < w1.heap.size := by have := hb1.size; simp at this; omega
      go_wp2_with fail
      go_ret
      exact ⟨ret_bool hf.out.symm, (below_alloc_then hb1).alloc (by omega) _⟩
    · have t0 : (aArg c == 0) = false := beq_eq_false_iff_ne.2 h0
      have hf : Hid (rightB c a = decide (0 ≤ a ∧ a ≤ 65535)) := Lib.hid (by unfold rightB; rw [HK.out, if_neg h0]; rfl)
      clear h0
      by_cases h1 : 0 ≤ a
      · by_cases h2 : a ≤ 65535
        all_goals
          go_enter Tryz.func43, Tryz.ntmps43
          go_wp2_with fail
          refine (about_any _ _ (hw.alloc _)).mono ?_
          rw [HK.out, Bool.and_true]
          rintro e w1 ⟨rfl, hb1⟩
          obtain ⟨hc1, hf1⟩ := bcell hb1
          have hz1 : w.heap.size < w1.heap.size := by have := hb1.size; simp at this; omega
          go_wp2_with fail
          go_ret
          exact ⟨ret_bool (by rw [hf.out]; simp; omega), (below_alloc_then hb1).alloc (by omega) _⟩
      · go_enter Tryz.func43, Tryz.ntmps43
        go_wp2_with fail
        refine (about_any _ _ (hw.alloc _)).mono ?_
        rw [HK.out, Bool.and_true]
        rintro e w1 ⟨rfl, hb1⟩
        obtain ⟨hc1, hf1⟩ := bcell hb1
        have hz1 : w.heap.size < w1.heap.size := by have := hb1.size; simp at this; omega
        go_wp2_with fail
        go_ret
        exact ⟨ret_bool (by rw [hf.out]; simp; omega), (below_alloc_then hb1).alloc (by omega) _⟩
theorem size_any (c : Int) (w : World) (hw : LaidOp w) : Calls Tryz.prog 44 #[.int .i64 c] w fun e w' => e = .returned (.int .i64 (opSize c : Nat)) ∧ Below w.heap.size w w' := by
  by_cases h0 : aArg c = 0
  · have hf : Hid (opSize c = 1) := Lib.hid (by unfold opSize; rw [if_pos h0])
    have t0 : (aArg c == 0) = true := beq_iff_eq.2 h0
    clear h0
    go_enter Tryz.func44, Tryz.ntmps44
    go_wp2_with fail
    refine (about_any _ _ hw).mono ?_
    rintro e w1 ⟨rfl, hb1⟩
    go_wp2_with fail
    go_ret
    exact ⟨ret_int (by rw [hf.out]; rfl), hb1.alloc hb1.size _⟩
  · have hf : Hid (opSize c = 3) := Lib.hid (by unfold opSize; rw [if_neg h0])
    have t0 : (aArg c == 0) = false := beq_eq_false_iff_ne.2 h0
    clear h0
    go_enter Tryz.func44, Tryz.ntmps44
    go_wp2_with fail
    refine (about_any _ _ hw).mono ?_
    rintro e w1 ⟨rfl, hb1⟩
    go_wp2_with fail
    go_ret
    exact ⟨ret_int (by rw [hf.out]; rfl), hb1.alloc hb1.size _⟩
theorem put_cell3 {w1 w2 : World} {x y z : Int} {T : TypeId} (hb : Below (w1.alloc (.cells #[.int .u8 x, .int .u8 y, .int .u8 z] T)).heap.size (w1.alloc (.cells #[.int .u8 x, .int .u8 y, .int .u8 z] T)) w2) :
    ∀ i, i < 3 → w2.cell? ⟨w1.heap.size, 0 + i, none⟩ = some (.int .u8 ([x, y, z].getD i 0)) := by
  intro i hi
  rw [hb.cell (p := ⟨w1.heap.size, 0 + i, none⟩) (by simp), World.cell?_alloc_new]
  match i, hi with
  | 0, _ => rfl
  | 1, _ => rfl
  | 2, _ => rfl
theorem put_cell1 {w1 w2 : World} {x y z : Int} {T : TypeId} (hb : Below (w1.alloc (.cells #[.int .u8 x, .int .u8 y, .int .u8 z] T)).heap.size (w1.alloc (.cells #[.int .u8 x, .int .u8 y, .int .u8 z] T)) w2) :
    ∀ i, i < 1 → w2.cell? ⟨w1.heap.size, 0 + i, none⟩ = some (.int .u8 ([x].getD i 0)) := by
  intro i hi
  have := put_cell3 hb i (by omega)
  rw [this]
  match i, hi with
  | 0, _ => rfl
theorem str_one (c : Int) : strOfNums [c] = ⟨[UInt8.ofNat c.toNat].toArray⟩ := rfl
theorem str_three (c a : Int) (h : 0 ≤ a) : strOfNums [c, a / 256, a % 256] = ⟨[UInt8.ofNat c.toNat, UInt8.ofNat (a.toNat / 256), UInt8.ofNat (a.toNat % 256)].toArray⟩ := by
  obtain ⟨n, rfl⟩ := Int.eq_ofNat_of_zero_le h
  rfl
theorem cat_two (a b : List UInt8) : (⟨a.toArray⟩ : ByteArray) ++ (⟨b.toArray⟩ : ByteArray) = ⟨(a ++ b).toArray⟩ := by
  apply ByteArray.ext
  rw [ByteArray.data_append]
  simp
theorem put_wrong (c a : Int) (w : World) (hw : LaidOp w) (hr : rightB c a = false) : Calls Tryz.prog 15 #[.agg #[.int .i64 c, .int .i64 a]] w fun e w' => e = .returned (.string ⟨(opPut c a).toArray⟩) ∧ Below w.heap.size w w' := by
  rw [opPut_wrong hr]
  go_enter Tryz.func15, Tryz.ntmps15
  go_wp2_with fail
  refine (right_any _ _ _ (hw.alloc _)).mono ?_
  rintro e w1 ⟨rfl, hb1⟩
  go_wp2_with fail
  go_ret
  exact ⟨rfl, below_alloc_then hb1⟩
set_option maxRecDepth 100000 in
theorem put_right (c a : Int) (w : World) (hw : LaidOp w) (hr : rightB c a = true) : Calls Tryz.prog 15 #[.agg #[.int .i64 c, .int .i64 a]] w fun e w' => e = .returned (.string ⟨(opPut c a).toArray⟩) ∧ Below w.heap.size w w' := by
  obtain ⟨r1, r2, r3, r4, r5⟩ := rightB_true hr
  obtain ⟨k1, k2⟩ := aOk_true r1
  have hf := Lib.hid (opPut_right hr)
  have HR := Lib.hid hr
  by_cases h0 : aArg c = 0
  · have HS : Hid (opSize c = 1) := Lib.hid (by unfold opSize; rw [if_pos h0])
    have hp := hf.out
    rw [if_pos h0] at hp
    rw [hp]
    clear r2 r3 hf hp hr h0 r1
    go_enter Tryz.func15, Tryz.ntmps15
    go_wp2_with fail
    refine (right_any _ _ _ (hw.alloc _)).mono ?_
    rw [HR.out]
    rintro e w1 ⟨rfl, hb1⟩
    obtain ⟨hc1, hf1⟩ := bcell hb1
    have hz1 : w.heap.size < w1.heap.size := by have := hb1.size; simp at this; omega
    have hw1 := (hw.alloc _).below hb1
    go_wp2_with fail
    refine (size_any _ _ (hw1.alloc _)).mono ?_
    rw [HS.out, show ((1 : Nat) : Int) = 1 from rfl]
    rintro e w2 ⟨rfl, hb2⟩
    have hsl : ∀ W : World, (Instr.sliceAt 102 (.pointer (some ⟨w1.heap.size, 0, none⟩)) none (some (.int .i64 1)) none).run Tryz.prog W = .ok (.slice (some ⟨w1.heap.size, 0, none⟩) 1 3) W := fun W =>
      run_sliceAt_array_h W 102 ⟨w1.heap.size, 0, none⟩ Tryz.underlying102 .i64 1 (by omega) (by show _ ≤ ((3 : Nat) : Int); omega)
    have hcv := run_convert_bytes_arg w2 38 5 Tryz.underlying38 Tryz.underlying5 w1.heap.size 0 1 3 [c] rfl (put_cell1 hb2) 9 Tryz.underlying9
    rw [str_one c] at hcv
    go_wp2_with fail
    go_ret
    exact ⟨ret_str rfl, below_two (below_alloc_then hb1) (below_alloc_then hb2)⟩
  · have HS : Hid (opSize c = 3) := Lib.hid (by unfold opSize; rw [if_neg h0])
    have hp := hf.out
    rw [if_neg h0] at hp
    rw [hp]
    clear r2 r3 hf hp hr h0 r1
    go_enter Tryz.func15, Tryz.ntmps15
    go_wp2_with fail
    refine (right_any _ _ _ (hw.alloc _)).mono ?_
    rw [HR.out]
    rintro e w1 ⟨rfl, hb1⟩
    obtain ⟨hc1, hf1⟩ := bcell hb1
    have hz1 : w.heap.size < w1.heap.size := by have := hb1.size; simp at this; omega
    have hw1 := (hw.alloc _).below hb1
    go_wp2_with fail
    refine (size_any _ _ (hw1.alloc _)).mono ?_
    rw [HS.out, show ((3 : Nat) : Int) = 3 from rfl]
    rintro e w2 ⟨rfl, hb2⟩
    have hsl : ∀ W : World, (Instr.sliceAt 102 (.pointer (some ⟨w1.heap.size, 0, none⟩)) none (some (.int .i64 3)) none).run Tryz.prog W = .ok (.slice (some ⟨w1.heap.size, 0, none⟩) 3 3) W := fun W =>
      run_sliceAt_array_h W 102 ⟨w1.heap.size, 0, none⟩ Tryz.underlying102 .i64 3 (by omega) (by show _ ≤ ((3 : Nat) : Int); omega)
    have hcv := run_convert_bytes_arg w2 38 5 Tryz.underlying38 Tryz.underlying5 w1.heap.size 0 3 3 [c, a / 256, a % 256] rfl (put_cell3 hb2) 9 Tryz.underlying9
    rw [str_three c a r4] at hcv
    go_wp2_with fail
    go_ret
    exact ⟨ret_str rfl, below_two (below_alloc_then hb1) (below_alloc_then hb2)⟩
theorem put_op (c a : Int) (w : World) (hw : LaidOp w) : Calls Tryz.prog 15 #[.agg #[.int .i64 c, .int .i64 a]] w fun e w' => e = .returned (.string ⟨(opPut c a).toArray⟩) ∧ Below w.heap.size w w' := by
  cases hr : rightB c a with
  | false => exact put_wrong c a w hw hr
  | true => exact put_right c a w hw hr
end Go.Proofs.YtecoeaeonedmnaaGreatDoor
