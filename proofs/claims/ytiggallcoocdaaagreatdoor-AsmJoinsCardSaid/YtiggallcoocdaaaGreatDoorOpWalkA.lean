/- op.Right, op.size, op.Put, op.Text. -/
import Derived.Test.YtiggallcoocdaaaGreatDoorOpTab
import Derived.Test.YtiggallcoocdaaaGreatDoorNumText
namespace Go.Proofs.YtiggallcoocdaaaGreatDoor
open Go.RowKit
theorem LaidOp.alloc {w : World} (h : LaidOp w) (o : Obj) : LaidOp (w.alloc o) := h.below ((Below.refl _ _).alloc (Nat.le_refl _) _)
theorem below_alloc_then {w w1 : World} {o : Obj} (h : Below (w.alloc o).heap.size (w.alloc o) w1) : Below w.heap.size w w1 := below_two ((Below.refl _ _).alloc (Nat.le_refl _) _) h
theorem right_any (c a : Int) (w : World) (hw : LaidOp w) : Calls Tryz.prog 48 #[.agg #[.int .i64 c, .int .i64 a]] w fun e w' => e = .returned (.bool (rightB c a)) ∧ Below w.heap.size w w' := by
  cases hk : aOk c with
  | false =>
    have hf : Hid (rightB c a = false) := Lib.hid (by unfold rightB; rw [hk]; rfl)
    have HK := Lib.hid hk
    clear hk
    go_enter Tryz.func48, Tryz.ntmps48
    go_wp2_with fail
    refine (about_any _ _ (hw.alloc _)).mono ?_
    rw [HK.out, Bool.and_false]
    rintro e w1 ⟨rfl, hb1⟩
    obtain ⟨hc1, hf1⟩ := bcell hb1
    have hz1 : w.heap.size < w1.heap.size := by have := hb1.size; simp at this; omega
    go_wp2_with fail
    go_ret
    exact ⟨ret_bool hf.out.symm, (below_alloc_then hb1).alloc (by omega) _⟩
  | true =>
    have HK := Lib.hid hk
    clear hk
    by_cases h0 : aArg c = 0
    · have hf : Hid (rightB c a = (a == 0)) := Lib.hid (by unfold rightB; rw [HK.out, if_pos h0]; rfl)
      have t0 : (aArg c == 0) = true := beq_iff_eq.2 h0
      clear h0
      go_enter Tryz.func48, Tryz.ntmps48
      go_wp2_with fail
      refine (about_any _ _ (hw.alloc _)).mono ?_
      rw [HK.out, Bool.and_true]
      rintro e w1 ⟨rfl, hb1⟩
      obtain ⟨hc1, hf1⟩ := bcell hb1
      have hz1 : w.heap.size < w1.heap.size := by have := hb1.size; simp at this; omega
      go_wp2_with fail
      go_ret
      exact ⟨ret_bool hf.out.symm, (below_alloc_then hb1).alloc (by omega) _⟩
    · have t0 : (aArg c == 0) = false := beq_eq_false_iff_ne.2 h0
      have hf : Hid (rightB c a = decide (0 ≤ a ∧ a ≤ 65535)) := Lib.hid (by unfold rightB; rw [HK.out, if_neg h0]; rfl)
      clear h0
      by_cases h1 : 0 ≤ a
      · by_cases h2 : a ≤ 65535
        all_goals
          go_enter Tryz.func48, Tryz.ntmps48
          go_wp2_with fail
          refine (about_any _ _ (hw.alloc _)).mono ?_
          rw [HK.out, Bool.and_true]
          rintro e w1 ⟨rfl, hb1⟩
          obtain ⟨hc1, hf1⟩ := bcell hb1
          have hz1 : w.heap.size < w1.heap.size := by have := hb1.size; simp at this; omega
          go_wp2_with fail
          go_ret
          exact ⟨ret_bool (by rw [hf.out]; simp; omega), (below_alloc_then hb1).alloc (by omega) _⟩
      · go_enter Tryz.func48, Tryz.ntmps48
        go_wp2_with fail
        refine (about_any _ _ (hw.alloc _)).mono ?_
        rw [HK.out, Bool.and_true]
        rintro e w1 ⟨rfl, hb1⟩
        obtain ⟨hc1, hf1⟩ := bcell hb1
        have hz1 : w.heap.size < w1.heap.size := by have := hb1.size; simp at this; omega
        go_wp2_with fail
        go_ret
        exact ⟨ret_bool (by rw [hf.out]; simp; omega), (below_alloc_then hb1).alloc (by omega) _⟩
theorem str_one (c : Int) : strOfNums [c] = ⟨[UInt8.ofNat c.toNat].toArray⟩ := rfl
theorem str_three (c a : Int) (h : 0 ≤ a) : strOfNums [c, a / 256, a % 256] = ⟨[UInt8.ofNat c.toNat, UInt8.ofNat (a.toNat / 256), UInt8.ofNat (a.toNat % 256)].toArray⟩ := by
  obtain ⟨n, rfl⟩ := Int.eq_ofNat_of_zero_le h
  rfl
theorem cat_two (a b : List UInt8) : (⟨a.toArray⟩ : ByteArray) ++ (⟨b.toArray⟩ : ByteArray) = ⟨(a ++ b).toArray⟩ := by
  apply ByteArray.ext
  rw [ByteArray.data_append]
  simp
theorem cat_blank (a b : List UInt8) : (⟨a.toArray⟩ : ByteArray) ++ (⟨#[32]⟩ : ByteArray) ++ (⟨b.toArray⟩ : ByteArray) = ⟨(a ++ 32 :: b).toArray⟩ := by
  apply ByteArray.ext
  rw [ByteArray.data_append, ByteArray.data_append]
  simp
theorem text_wrong (c a : Int) (w : World) (hw : LaidOp w) (hr : rightB c a = false) : Calls Tryz.prog 28 #[.agg #[.int .i64 c, .int .i64 a]] w fun e w' => e = .returned (.string ⟨(opText c a).toArray⟩) ∧ Below w.heap.size w w' := by
  have hf : Hid (opText c a = [63]) := Lib.hid (by unfold opText; rw [hr]; rfl)
  go_enter Tryz.func28, Tryz.ntmps28
  go_wp2_with fail
  refine (right_any _ _ _ (hw.alloc _)).mono ?_
  rintro e w1 ⟨rfl, hb1⟩
  go_wp2_with fail
  go_ret
  exact ⟨ret_str (by rw [hf.out]), below_alloc_then hb1⟩
theorem text_right (c a : Int) (w : World) (hw : LaidOp w) (hr : rightB c a = true) : Calls Tryz.prog 28 #[.agg #[.int .i64 c, .int .i64 a]] w fun e w' => e = .returned (.string ⟨(opText c a).toArray⟩) ∧ Below w.heap.size w w' := by
  obtain ⟨r1, r2, r3, r4, r5⟩ := rightB_true hr
  have hn := (name_bytes c r1).2.2
  have hf := Lib.hid (opText_right hr)
  have HR := Lib.hid hr
  have hi := inI64_65535 ⟨r4, r5⟩
  have hl := itoa_len a hi
  by_cases h0 : aArg c = 0
  · have t0 : (aArg c == 0) = true := beq_iff_eq.2 h0
    have hp := hf.out
    rw [if_pos h0] at hp
    rw [hp]
    clear r2 r3 hf hp hr h0
    go_enter Tryz.func28, Tryz.ntmps28
    go_wp2_with fail
    refine (right_any _ _ _ (hw.alloc _)).mono ?_
    rw [HR.out]
    rintro e w1 ⟨rfl, hb1⟩
    obtain ⟨hc1, hf1⟩ := bcell hb1
    have hz1 : w.heap.size < w1.heap.size := by have := hb1.size; simp at this; omega
    have hw1 := (hw.alloc _).below hb1
    go_wp2_with fail
    refine (about_any _ _ hw1).mono ?_
    rintro e w2 ⟨rfl, hb2⟩
    obtain ⟨hc2, hf2⟩ := bcell hb2
    have hz2 : w.heap.size < w2.heap.size := by have := hb2.size; omega
    go_wp2_with fail
    go_ret
    exact ⟨rfl, (below_two (below_alloc_then hb1) hb2).alloc (by omega) _⟩
  · have t0 : (aArg c == 0) = false := beq_eq_false_iff_ne.2 h0
    have hp := hf.out
    rw [if_neg h0] at hp
    rw [hp]
    clear r2 r3 hf hp hr h0
    go_enter Tryz.func28, Tryz.ntmps28
    go_wp2_with fail
    refine (right_any _ _ _ (hw.alloc _)).mono ?_
    rw [HR.out]
    rintro e w1 ⟨rfl, hb1⟩
    obtain ⟨hc1, hf1⟩ := bcell hb1
    have hz1 : w.heap.size < w1.heap.size := by have := hb1.size; simp at this; omega
    have hw1 := (hw.alloc _).below hb1
    go_wp2_with fail
    refine (about_any _ _ hw1).mono ?_
    rintro e w2 ⟨rfl, hb2⟩
    obtain ⟨hc2, hf2⟩ := bcell hb2
    have hz2 : w.heap.size < w2.heap.size := by have := hb2.size; omega
    have hw2 := hw1.below hb2
    have e1 : w2.cell? ⟨w.heap.size, 1, none⟩ = some (.int .i64 a) := by
      rw [hc2 _ _ hz1, hc1 _ _ (by simp), World.cell?_alloc_new]
      rfl
    go_wp2_with fail
    have q1 : ∀ p : After (w2.alloc (.cells #[.string ⟨(aName c).toArray⟩, .int .i64 (aArg c), .int .i64 (aPop c), .int .i64 (aPush c), .bool (aLast c)] 100)), p.world.cell? ⟨w2.heap.size, 0, none⟩ = some (.string ⟨(aName c).toArray⟩) := fun p => by
      rw [p.h.cell (by simp), World.cell?_alloc_new]
      rfl
    have q2 : ∀ p : After (w2.alloc (.cells #[.string ⟨(aName c).toArray⟩, .int .i64 (aArg c), .int .i64 (aPop c), .int .i64 (aPush c), .bool (aLast c)] 100)), p.world.cell? ⟨w.heap.size, 1, none⟩ = some (.int .i64 a) := fun p => by
      rw [p.h.cell (by simp; omega), World.cell?_alloc_lt _ _ _ hz2, e1]
    refine wp_region_after (by kernel_rfl) (by kernel_rfl) ?_
    repeat (go_big_quiet_step ((go_at_call 25; exact After.call (text_any _ _ hi (LaidOp.after (hw2.alloc _) _).1))))
    refine wpQuiet_nil ?_
    rintro _ ⟨p, rfl⟩
    have hb3 := p.h
    go_wp2_with fail
    go_ret
    exact ⟨ret_str (cat_blank _ _), below_two (below_two (below_alloc_then hb1) hb2) (below_alloc_then hb3)⟩
theorem text_op (c a : Int) (w : World) (hw : LaidOp w) : Calls Tryz.prog 28 #[.agg #[.int .i64 c, .int .i64 a]] w fun e w' => e = .returned (.string ⟨(opText c a).toArray⟩) ∧ Below w.heap.size w w' := by
  cases hr : rightB c a with
  | false => exact text_wrong c a w hw hr
  | true => exact text_right c a w hw hr
end Go.Proofs.YtiggallcoocdaaaGreatDoor
