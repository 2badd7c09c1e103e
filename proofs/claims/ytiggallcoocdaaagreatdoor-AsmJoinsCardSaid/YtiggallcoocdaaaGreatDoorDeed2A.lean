/- The maker's deed, choice by choice. -/
import Derived.Test.YtiggallcoocdaaaGreatDoorZB
namespace Go.Proofs.YtiggallcoocdaaaGreatDoor
open Go.RowKit
set_option maxRecDepth 100000 in
set_option maxHeartbeats 2000000 in
theorem deed12 (m : Nat) (lv : Value) (lb : List UInt8) (a : Nat) (c : List (Int × Int)) (ab : Int) (w : World) (H : DS m lv lb c w a [] w) (ha : a ≤ 1000) (hc : c.length ≤ 1000) (_ : 0 ≤ ab) (_ : ab ≤ 2) (hk : ((rdB lb (a + 1) : Nat) : Int) % 32 = 12) :
    Calls Tryz.prog 42 #[.pointer (some ⟨m, 0, none⟩), .int .i64 ab] w fun e w' => e = .returned (.tuple #[]) ∧ DeedP m lv lb c w a w' := by
  go_enter Tryz.func42, Tryz.ntmps42
  go_wp2_with (first
    | (go_at_call 23; first | (refine (next_c H (by omega)).mono ?_; clear H; rintro e W ⟨rfl, H, -⟩))
    | (go_at_call 60; refine (number_c H (by omega) (by simp; omega)).mono ?_; clear H; rintro e W ⟨rfl, H⟩)
    | (go_at_call 61; refine (mark_c H (by omega) (by simp; omega)).mono ?_; clear H; rintro e W ⟨rfl, H⟩)
    | (go_at_call 43; refine (local_c H _ (by simp; omega) (by omega) (by omega)).mono ?_; clear H; rintro e W ⟨rfl, H⟩)
    | (go_at_call 22; refine (emit_c H _ _ (by simp; omega) (by first | exact gd0 (by omega) | exact gd1 (by omega) (by omega) (by omega))).mono ?_; clear H; rintro e W ⟨rfl, H⟩))
  go_end0
  exact ⟨rfl, _, _, H, by omega, by simp, by simp⟩
set_option maxRecDepth 100000 in
set_option maxHeartbeats 2000000 in
theorem deed13 (m : Nat) (lv : Value) (lb : List UInt8) (a : Nat) (c : List (Int × Int)) (ab : Int) (w : World) (H : DS m lv lb c w a [] w) (ha : a ≤ 1000) (hc : c.length ≤ 1000) (_ : 0 ≤ ab) (_ : ab ≤ 2) (hk : ((rdB lb (a + 1) : Nat) : Int) % 32 = 13) :
    Calls Tryz.prog 42 #[.pointer (some ⟨m, 0, none⟩), .int .i64 ab] w fun e w' => e = .returned (.tuple #[]) ∧ DeedP m lv lb c w a w' := by
  go_enter Tryz.func42, Tryz.ntmps42
  go_wp2_with (first
    | (go_at_call 23; first | (refine (next_c H (by omega)).mono ?_; clear H; rintro e W ⟨rfl, H, -⟩))
    | (go_at_call 60; refine (number_c H (by omega) (by simp; omega)).mono ?_; clear H; rintro e W ⟨rfl, H⟩)
    | (go_at_call 61; refine (mark_c H (by omega) (by simp; omega)).mono ?_; clear H; rintro e W ⟨rfl, H⟩)
    | (go_at_call 43; refine (local_c H _ (by simp; omega) (by omega) (by omega)).mono ?_; clear H; rintro e W ⟨rfl, H⟩)
    | (go_at_call 22; refine (emit_c H _ _ (by simp; omega) (by first | exact gd0 (by omega) | exact gd1 (by omega) (by omega) (by omega))).mono ?_; clear H; rintro e W ⟨rfl, H⟩))
  go_end0
  exact ⟨rfl, _, _, H, by omega, by simp, by simp⟩
set_option maxRecDepth 100000 in
set_option maxHeartbeats 2000000 in
theorem deed14 (m : Nat) (lv : Value) (lb : List UInt8) (a : Nat) (c : List (Int × Int)) (ab : Int) (w : World) (H : DS m lv lb c w a [] w) (ha : a ≤ 1000) (hc : c.length ≤ 1000) (_ : 0 ≤ ab) (_ : ab ≤ 2) (hk : ((rdB lb (a + 1) : Nat) : Int) % 32 = 14) :
    Calls Tryz.prog 42 #[.pointer (some ⟨m, 0, none⟩), .int .i64 ab] w fun e w' => e = .returned (.tuple #[]) ∧ DeedP m lv lb c w a w' := by
  go_enter Tryz.func42, Tryz.ntmps42
  go_wp2_with (first
    | (go_at_call 23; first | (refine (next_c H (by omega)).mono ?_; clear H; rintro e W ⟨rfl, H, -⟩))
    | (go_at_call 60; refine (number_c H (by omega) (by simp; omega)).mono ?_; clear H; rintro e W ⟨rfl, H⟩)
    | (go_at_call 61; refine (mark_c H (by omega) (by simp; omega)).mono ?_; clear H; rintro e W ⟨rfl, H⟩)
    | (go_at_call 43; refine (local_c H _ (by simp; omega) (by omega) (by omega)).mono ?_; clear H; rintro e W ⟨rfl, H⟩)
    | (go_at_call 22; refine (emit_c H _ _ (by simp; omega) (by first | exact gd0 (by omega) | exact gd1 (by omega) (by omega) (by omega))).mono ?_; clear H; rintro e W ⟨rfl, H⟩))
  go_end0
  exact ⟨rfl, _, _, H, by omega, by simp, by simp⟩
set_option maxRecDepth 100000 in
set_option maxHeartbeats 2000000 in
theorem deed15 (m : Nat) (lv : Value) (lb : List UInt8) (a : Nat) (c : List (Int × Int)) (ab : Int) (w : World) (H : DS m lv lb c w a [] w) (ha : a ≤ 1000) (hc : c.length ≤ 1000) (_ : 0 ≤ ab) (_ : ab ≤ 2) (hk : ((rdB lb (a + 1) : Nat) : Int) % 32 = 15) :
    Calls Tryz.prog 42 #[.pointer (some ⟨m, 0, none⟩), .int .i64 ab] w fun e w' => e = .returned (.tuple #[]) ∧ DeedP m lv lb c w a w' := by
  go_enter Tryz.func42, Tryz.ntmps42
  go_wp2_with (first
    | (go_at_call 23; first | (refine (next_c H (by omega)).mono ?_; clear H; rintro e W ⟨rfl, H, -⟩))
    | (go_at_call 60; refine (number_c H (by omega) (by simp; omega)).mono ?_; clear H; rintro e W ⟨rfl, H⟩)
    | (go_at_call 61; refine (mark_c H (by omega) (by simp; omega)).mono ?_; clear H; rintro e W ⟨rfl, H⟩)
    | (go_at_call 43; refine (local_c H _ (by simp; omega) (by omega) (by omega)).mono ?_; clear H; rintro e W ⟨rfl, H⟩)
    | (go_at_call 22; refine (emit_c H _ _ (by simp; omega) (by first | exact gd0 (by omega) | exact gd1 (by omega) (by omega) (by omega))).mono ?_; clear H; rintro e W ⟨rfl, H⟩))
  go_end0
  exact ⟨rfl, _, _, H, by omega, by simp, by simp⟩
set_option maxRecDepth 100000 in
set_option maxHeartbeats 2000000 in
theorem deed16p_0 (m : Nat) (lv : Value) (lb : List UInt8) (a : Nat) (c : List (Int × Int)) (ab : Int) (w : World) (H : DS m lv lb c w a [] w) (ha : a ≤ 1000) (hc : c.length ≤ 1000) (hab0 : 0 ≤ ab) (hab1 : ab ≤ 2) (hk : ((rdB lb (a + 1) : Nat) : Int) % 32 = 16) (hab : 0 < ab) (hy : ((rdB lb (a + 1 + 1) : Nat) : Int) % 4 = 0) :
    Calls Tryz.prog 42 #[.pointer (some ⟨m, 0, none⟩), .int .i64 ab] w fun e w' => e = .returned (.tuple #[]) ∧ DeedP m lv lb c w a w' := by
  go_enter Tryz.func42, Tryz.ntmps42
  go_wp2_with (first
    | (go_at_call 23; first | (refine (next_c H (by omega)).mono ?_; clear H; rintro e W ⟨rfl, H, -⟩) | (have hne := Nat.ne_of_gt H.mak.lt; refine (next_c (H.al _) (by omega)).mono ?_; clear H; rintro e W2 ⟨rfl, H, hK⟩; have hA := hK.keep (heap_alloc_new W (.cells #[.int .i64 4, .int .i64 2, .int .i64 3, .int .i64 (((rdB lb a : Nat) : Int) % 8)] 3)) hne; have a0 := Mem.cell (v := .int .i64 4) hA 0 rfl; have a1 := Mem.cell (v := .int .i64 2) hA 1 rfl; have a2 := Mem.cell (v := .int .i64 3) hA 2 rfl; have a3 := Mem.cell (v := .int .i64 (((rdB lb a : Nat) : Int) % 8)) hA 3 rfl))
    | (go_at_call 60; refine (number_c H (by omega) (by simp; omega)).mono ?_; clear H; rintro e W ⟨rfl, H⟩)
    | (go_at_call 61; refine (mark_c H (by omega) (by simp; omega)).mono ?_; clear H; rintro e W ⟨rfl, H⟩)
    | (go_at_call 43; refine (local_c H _ (by simp; omega) (by omega) (by omega)).mono ?_; clear H; rintro e W ⟨rfl, H⟩)
    | (go_at_call 22; refine (emit_c H _ _ (by simp; omega) (by first | exact gd0 (by omega) | exact gd1 (by omega) (by omega) (by omega))).mono ?_; clear H; rintro e W ⟨rfl, H⟩))
  go_end0
  exact ⟨rfl, _, _, H, by omega, by simp, by simp⟩
set_option maxRecDepth 100000 in
set_option maxHeartbeats 2000000 in
theorem deed16p_1 (m : Nat) (lv : Value) (lb : List UInt8) (a : Nat) (c : List (Int × Int)) (ab : Int) (w : World) (H : DS m lv lb c w a [] w) (ha : a ≤ 1000) (hc : c.length ≤ 1000) (hab0 : 0 ≤ ab) (hab1 : ab ≤ 2) (hk : ((rdB lb (a + 1) : Nat) : Int) % 32 = 16) (hab : 0 < ab) (hy : ((rdB lb (a + 1 + 1) : Nat) : Int) % 4 = 1) :
    Calls Tryz.prog 42 #[.pointer (some ⟨m, 0, none⟩), .int .i64 ab] w fun e w' => e = .returned (.tuple #[]) ∧ DeedP m lv lb c w a w' := by
  go_enter Tryz.func42, Tryz.ntmps42
  go_wp2_with (first
    | (go_at_call 23; first | (refine (next_c H (by omega)).mono ?_; clear H; rintro e W ⟨rfl, H, -⟩) | (have hne := Nat.ne_of_gt H.mak.lt; refine (next_c (H.al _) (by omega)).mono ?_; clear H; rintro e W2 ⟨rfl, H, hK⟩; have hA := hK.keep (heap_alloc_new W (.cells #[.int .i64 4, .int .i64 2, .int .i64 3, .int .i64 (((rdB lb a : Nat) : Int) % 8)] 3)) hne; have a0 := Mem.cell (v := .int .i64 4) hA 0 rfl; have a1 := Mem.cell (v := .int .i64 2) hA 1 rfl; have a2 := Mem.cell (v := .int .i64 3) hA 2 rfl; have a3 := Mem.cell (v := .int .i64 (((rdB lb a : Nat) : Int) % 8)) hA 3 rfl))
    | (go_at_call 60; refine (number_c H (by omega) (by simp; omega)).mono ?_; clear H; rintro e W ⟨rfl, H⟩)
    | (go_at_call 61; refine (mark_c H (by omega) (by simp; omega)).mono ?_; clear H; rintro e W ⟨rfl, H⟩)
    | (go_at_call 43; refine (local_c H _ (by simp; omega) (by omega) (by omega)).mono ?_; clear H; rintro e W ⟨rfl, H⟩)
    | (go_at_call 22; refine (emit_c H _ _ (by simp; omega) (by first | exact gd0 (by omega) | exact gd1 (by omega) (by omega) (by omega))).mono ?_; clear H; rintro e W ⟨rfl, H⟩))
  go_end0
  exact ⟨rfl, _, _, H, by omega, by simp, by simp⟩
set_option maxRecDepth 100000 in
set_option maxHeartbeats 2000000 in
theorem deed16p_2 (m : Nat) (lv : Value) (lb : List UInt8) (a : Nat) (c : List (Int × Int)) (ab : Int) (w : World) (H : DS m lv lb c w a [] w) (ha : a ≤ 1000) (hc : c.length ≤ 1000) (hab0 : 0 ≤ ab) (hab1 : ab ≤ 2) (hk : ((rdB lb (a + 1) : Nat) : Int) % 32 = 16) (hab : 0 < ab) (hy : ((rdB lb (a + 1 + 1) : Nat) : Int) % 4 = 2) :
    Calls Tryz.prog 42 #[.pointer (some ⟨m, 0, none⟩), .int .i64 ab] w fun e w' => e = .returned (.tuple #[]) ∧ DeedP m lv lb c w a w' := by
  go_enter Tryz.func42, Tryz.ntmps42
  go_wp2_with (first
    | (go_at_call 23; first | (refine (next_c H (by omega)).mono ?_; clear H; rintro e W ⟨rfl, H, -⟩) | (have hne := Nat.ne_of_gt H.mak.lt; refine (next_c (H.al _) (by omega)).mono ?_; clear H; rintro e W2 ⟨rfl, H, hK⟩; have hA := hK.keep (heap_alloc_new W (.cells #[.int .i64 4, .int .i64 2, .int .i64 3, .int .i64 (((rdB lb a : Nat) : Int) % 8)] 3)) hne; have a0 := Mem.cell (v := .int .i64 4) hA 0 rfl; have a1 := Mem.cell (v := .int .i64 2) hA 1 rfl; have a2 := Mem.cell (v := .int .i64 3) hA 2 rfl; have a3 := Mem.cell (v := .int .i64 (((rdB lb a : Nat) : Int) % 8)) hA 3 rfl))
    | (go_at_call 60; refine (number_c H (by omega) (by simp; omega)).mono ?_; clear H; rintro e W ⟨rfl, H⟩)
    | (go_at_call 61; refine (mark_c H (by omega) (by simp; omega)).mono ?_; clear H; rintro e W ⟨rfl, H⟩)
    | (go_at_call 43; refine (local_c H _ (by simp; omega) (by omega) (by omega)).mono ?_; clear H; rintro e W ⟨rfl, H⟩)
    | (go_at_call 22; refine (emit_c H _ _ (by simp; omega) (by first | exact gd0 (by omega) | exact gd1 (by omega) (by omega) (by omega))).mono ?_; clear H; rintro e W ⟨rfl, H⟩))
  go_end0
  exact ⟨rfl, _, _, H, by omega, by simp, by simp⟩
set_option maxRecDepth 100000 in
set_option maxHeartbeats 2000000 in
theorem deed16p_3 (m : Nat) (lv : Value) (lb : List UInt8) (a : Nat) (c : List (Int × Int)) (ab : Int) (w : World) (H : DS m lv lb c w a [] w) (ha : a ≤ 1000) (hc : c.length ≤ 1000) (hab0 : 0 ≤ ab) (hab1 : ab ≤ 2) (hk : ((rdB lb (a + 1) : Nat) : Int) % 32 = 16) (hab : 0 < ab) (hy : ((rdB lb (a + 1 + 1) : Nat) : Int) % 4 = 3) :
    Calls Tryz.prog 42 #[.pointer (some ⟨m, 0, none⟩), .int .i64 ab] w fun e w' => e = .returned (.tuple #[]) ∧ DeedP m lv lb c w a w' := by
  go_enter Tryz.func42, Tryz.ntmps42
  go_wp2_with (first
    | (go_at_call 23; first | (refine (next_c H (by omega)).mono ?_; clear H; rintro e W ⟨rfl, H, -⟩) | (have hne := Nat.ne_of_gt H.mak.lt; refine (next_c (H.al _) (by omega)).mono ?_; clear H; rintro e W2 ⟨rfl, H, hK⟩; have hA := hK.keep (heap_alloc_new W (.cells #[.int .i64 4, .int .i64 2, .int .i64 3, .int .i64 (((rdB lb a : Nat) : Int) % 8)] 3)) hne; have a0 := Mem.cell (v := .int .i64 4) hA 0 rfl; have a1 := Mem.cell (v := .int .i64 2) hA 1 rfl; have a2 := Mem.cell (v := .int .i64 3) hA 2 rfl; have a3 := Mem.cell (v := .int .i64 (((rdB lb a : Nat) : Int) % 8)) hA 3 rfl))
    | (go_at_call 60; refine (number_c H (by omega) (by simp; omega)).mono ?_; clear H; rintro e W ⟨rfl, H⟩)
    | (go_at_call 61; refine (mark_c H (by omega) (by simp; omega)).mono ?_; clear H; rintro e W ⟨rfl, H⟩)
    | (go_at_call 43; refine (local_c H _ (by simp; omega) (by omega) (by omega)).mono ?_; clear H; rintro e W ⟨rfl, H⟩)
    | (go_at_call 22; refine (emit_c H _ _ (by simp; omega) (by first | exact gd0 (by omega) | exact gd1 (by omega) (by omega) (by omega))).mono ?_; clear H; rintro e W ⟨rfl, H⟩))
  go_end0
  exact ⟨rfl, _, _, H, by omega, by simp, by simp⟩
set_option maxRecDepth 100000 in
set_option maxHeartbeats 2000000 in
theorem deed16z (m : Nat) (lv : Value) (lb : List UInt8) (a : Nat) (c : List (Int × Int)) (ab : Int) (w : World) (H : DS m lv lb c w a [] w) (ha : a ≤ 1000) (hc : c.length ≤ 1000) (hab0 : 0 ≤ ab) (hab1 : ab ≤ 2) (hk : ((rdB lb (a + 1) : Nat) : Int) % 32 = 16) (hab : ab = 0) :
    Calls Tryz.prog 42 #[.pointer (some ⟨m, 0, none⟩), .int .i64 ab] w fun e w' => e = .returned (.tuple #[]) ∧ DeedP m lv lb c w a w' := by
  subst hab
  go_enter Tryz.func42, Tryz.ntmps42
  go_wp2_with (first
    | (go_at_call 23; first | (refine (next_c H (by omega)).mono ?_; clear H; rintro e W ⟨rfl, H, -⟩))
    | (go_at_call 60; refine (number_c H (by omega) (by simp; omega)).mono ?_; clear H; rintro e W ⟨rfl, H⟩)
    | (go_at_call 61; refine (mark_c H (by omega) (by simp; omega)).mono ?_; clear H; rintro e W ⟨rfl, H⟩)
    | (go_at_call 43; refine (local_c H _ (by simp; omega) (by omega) (by omega)).mono ?_; clear H; rintro e W ⟨rfl, H⟩)
    | (go_at_call 22; refine (emit_c H _ _ (by simp; omega) (by first | exact gd0 (by omega) | exact gd1 (by omega) (by omega) (by omega))).mono ?_; clear H; rintro e W ⟨rfl, H⟩))
  go_end0
  exact ⟨rfl, _, _, H, by omega, by simp, by simp⟩
set_option maxRecDepth 100000 in
set_option maxHeartbeats 2000000 in
theorem deed17p_0 (m : Nat) (lv : Value) (lb : List UInt8) (a : Nat) (c : List (Int × Int)) (ab : Int) (w : World) (H : DS m lv lb c w a [] w) (ha : a ≤ 1000) (hc : c.length ≤ 1000) (hab0 : 0 ≤ ab) (hab1 : ab ≤ 2) (hk : ((rdB lb (a + 1) : Nat) : Int) % 32 = 17) (hab : 0 < ab) (hy : ((rdB lb (a + 1 + 1) : Nat) : Int) % 4 = 0) :
    Calls Tryz.prog 42 #[.pointer (some ⟨m, 0, none⟩), .int .i64 ab] w fun e w' => e = .returned (.tuple #[]) ∧ DeedP m lv lb c w a w' := by
  go_enter Tryz.func42, Tryz.ntmps42
  go_wp2_with (first
    | (go_at_call 23; first | (refine (next_c H (by omega)).mono ?_; clear H; rintro e W ⟨rfl, H, -⟩) | (have hne := Nat.ne_of_gt H.mak.lt; refine (next_c (H.al _) (by omega)).mono ?_; clear H; rintro e W2 ⟨rfl, H, hK⟩; have hA := hK.keep (heap_alloc_new W (.cells #[.int .i64 4, .int .i64 2, .int .i64 3, .int .i64 (((rdB lb a : Nat) : Int) % 8)] 3)) hne; have a0 := Mem.cell (v := .int .i64 4) hA 0 rfl; have a1 := Mem.cell (v := .int .i64 2) hA 1 rfl; have a2 := Mem.cell (v := .int .i64 3) hA 2 rfl; have a3 := Mem.cell (v := .int .i64 (((rdB lb a : Nat) : Int) % 8)) hA 3 rfl))
    | (go_at_call 60; refine (number_c H (by omega) (by simp; omega)).mono ?_; clear H; rintro e W ⟨rfl, H⟩)
    | (go_at_call 61; refine (mark_c H (by omega) (by simp; omega)).mono ?_; clear H; rintro e W ⟨rfl, H⟩)
    | (go_at_call 43; refine (local_c H _ (by simp; omega) (by omega) (by omega)).mono ?_; clear H; rintro e W ⟨rfl, H⟩)
    | (go_at_call 22; refine (emit_c H _ _ (by simp; omega) (by first | exact gd0 (by omega) | exact gd1 (by omega) (by omega) (by omega))).mono ?_; clear H; rintro e W ⟨rfl, H⟩))
  go_end0
  exact ⟨rfl, _, _, H, by omega, by simp, by simp⟩
set_option maxRecDepth 100000 in
set_option maxHeartbeats 2000000 in
theorem deed17p_1 (m : Nat) (lv : Value) (lb : List UInt8) (a : Nat) (c : List (Int × Int)) (ab : Int) (w : World) (H : DS m lv lb c w a [] w) (ha : a ≤ 1000) (hc : c.length ≤ 1000) (hab0 : 0 ≤ ab) (hab1 : ab ≤ 2) (hk : ((rdB lb (a + 1) : Nat) : Int) % 32 = 17) (hab : 0 < ab) (hy : ((rdB lb (a + 1 + 1) : Nat) : Int) % 4 = 1) :
    Calls Tryz.prog 42 #[.pointer (some ⟨m, 0, none⟩), .int .i64 ab] w fun e w' => e = .returned (.tuple #[]) ∧ DeedP m lv lb c w a w' := by
  go_enter Tryz.func42, Tryz.ntmps42
  go_wp2_with (first
    | (go_at_call 23; first | (refine (next_c H (by omega)).mono ?_; clear H; rintro e W ⟨rfl, H, -⟩) | (have hne := Nat.ne_of_gt H.mak.lt; refine (next_c (H.al _) (by omega)).mono ?_; clear H; rintro e W2 ⟨rfl, H, hK⟩; have hA := hK.keep (heap_alloc_new W (.cells #[.int .i64 4, .int .i64 2, .int .i64 3, .int .i64 (((rdB lb a : Nat) : Int) % 8)] 3)) hne; have a0 := Mem.cell (v := .int .i64 4) hA 0 rfl; have a1 := Mem.cell (v := .int .i64 2) hA 1 rfl; have a2 := Mem.cell (v := .int .i64 3) hA 2 rfl; have a3 := Mem.cell (v := .int .i64 (((rdB lb a : Nat) : Int) % 8)) hA 3 rfl))
    | (go_at_call 60; refine (number_c H (by omega) (by simp; omega)).mono ?_; clear H; rintro e W ⟨rfl, H⟩)
    | (go_at_call 61; refine (mark_c H (by omega) (by simp; omega)).mono ?_; clear H; rintro e W ⟨rfl, H⟩)
    | (go_at_call 43; refine (local_c H _ (by simp; omega) (by omega) (by omega)).mono ?_; clear H; rintro e W ⟨rfl, H⟩)
    | (go_at_call 22; refine (emit_c H _ _ (by simp; omega) (by first | exact gd0 (by omega) | exact gd1 (by omega) (by omega) (by omega))).mono ?_; clear H; rintro e W ⟨rfl, H⟩))
  go_end0
  exact ⟨rfl, _, _, H, by omega, by simp, by simp⟩
set_option maxRecDepth 100000 in
set_option maxHeartbeats 2000000 in
theorem deed17p_2 (m : Nat) (lv : Value) (lb : List UInt8) (a : Nat) (c : List (Int × Int)) (ab : Int) (w : World) (H : DS m lv lb c w a [] w) (ha : a ≤ 1000) (hc : c.length ≤ 1000) (hab0 : 0 ≤ ab) (hab1 : ab ≤ 2) (hk : ((rdB lb (a + 1) : Nat) : Int) % 32 = 17) (hab : 0 < ab) (hy : ((rdB lb (a + 1 + 1) : Nat) : Int) % 4 = 2) :
    Calls Tryz.prog 42 #[.pointer (some ⟨m, 0, none⟩), .int .i64 ab] w fun e w' => e = .returned (.tuple #[]) ∧ DeedP m lv lb c w a w' := by
  go_enter Tryz.func42, Tryz.ntmps42
  go_wp2_with (first
    | (go_at_call 23; first | (refine (next_c H (by omega)).mono ?_; clear H; rintro e W ⟨rfl, H, -⟩) | (have hne := Nat.ne_of_gt H.mak.lt; refine (next_c (H.al _) (by omega)).mono ?_; clear H; rintro e W2 ⟨rfl, H, hK⟩; have hA := hK.keep (heap_alloc_new W (.cells #[.int .i64 4, .int .i64 2, .int .i64 3, .int .i64 (((rdB lb a : Nat) : Int) % 8)] 3)) hne; have a0 := Mem.cell (v := .int .i64 4) hA 0 rfl; have a1 := Mem.cell (v := .int .i64 2) hA 1 rfl; have a2 := Mem.cell (v := .int .i64 3) hA 2 rfl; have a3 := Mem.cell (v := .int .i64 (((rdB lb a : Nat) : Int) % 8)) hA 3 rfl))
    | (go_at_call 60; refine (number_c H (by omega) (by simp; omega)).mono ?_; clear H; rintro e W ⟨rfl, H⟩)
    | (go_at_call 61; refine (mark_c H (by omega) (by simp; omega)).mono ?_; clear H; rintro e W ⟨rfl, H⟩)
    | (go_at_call 43; refine (local_c H _ (by simp; omega) (by omega) (by omega)).mono ?_; clear H; rintro e W ⟨rfl, H⟩)
    | (go_at_call 22; refine (emit_c H _ _ (by simp; omega) (by first | exact gd0 (by omega) | exact gd1 (by omega) (by omega) (by omega))).mono ?_; clear H; rintro e W ⟨rfl, H⟩))
  go_end0
  exact ⟨rfl, _, _, H, by omega, by simp, by simp⟩
set_option maxRecDepth 100000 in
set_option maxHeartbeats 2000000 in
theorem deed17p_3 (m : Nat) (lv : Value) (lb : List UInt8) (a : Nat) (c : List (Int × Int)) (ab : Int) (w : World) (H : DS m lv lb c w a [] w) (ha : a ≤ 1000) (hc : c.length ≤ 1000) (hab0 : 0 ≤ ab) (hab1 : ab ≤ 2) (hk : ((rdB lb (a + 1) : Nat) : Int) % 32 = 17) (hab : 0 < ab) (hy : ((rdB lb (a + 1 + 1) : Nat) : Int) % 4 = 3) :
    Calls Tryz.prog 42 #[.pointer (some ⟨m, 0, none⟩), .int .i64 ab] w fun e w' => e = .returned (.tuple #[]) ∧ DeedP m lv lb c w a w' := by
  go_enter Tryz.func42, Tryz.ntmps42
  go_wp2_with (first
    | (go_at_call 23; first | (refine (next_c H (by omega)).mono ?_; clear H; rintro e W ⟨rfl, H, -⟩) | (have hne := Nat.ne_of_gt H.mak.lt; refine (next_c (H.al _) (by omega)).mono ?_; clear H; rintro e W2 ⟨rfl, H, hK⟩; have hA := hK.keep (heap_alloc_new W (.cells #[.int .i64 4, .int .i64 2, .int .i64 3, .int .i64 (((rdB lb a : Nat) : Int) % 8)] 3)) hne; have a0 := Mem.cell (v := .int .i64 4) hA 0 rfl; have a1 := Mem.cell (v := .int .i64 2) hA 1 rfl; have a2 := Mem.cell (v := .int .i64 3) hA 2 rfl; have a3 := Mem.cell (v := .int .i64 (((rdB lb a : Nat) : Int) % 8)) hA 3 rfl))
    | (go_at_call 60; refine (number_c H (by omega) (by simp; omega)).mono ?_; clear H; rintro e W ⟨rfl, H⟩)
    | (go_at_call 61; refine (mark_c H (by omega) (by simp; omega)).mono ?_; clear H; rintro e W ⟨rfl, H⟩)
    | (go_at_call 43; refine (local_c H _ (by simp; omega) (by omega) (by omega)).mono ?_; clear H; rintro e W ⟨rfl, H⟩)
    | (go_at_call 22; refine (emit_c H _ _ (by simp; omega) (by first | exact gd0 (by omega) | exact gd1 (by omega) (by omega) (by omega))).mono ?_; clear H; rintro e W ⟨rfl, H⟩))
  go_end0
  exact ⟨rfl, _, _, H, by omega, by simp, by simp⟩
set_option maxRecDepth 100000 in
set_option maxHeartbeats 2000000 in
theorem deed17z (m : Nat) (lv : Value) (lb : List UInt8) (a : Nat) (c : List (Int × Int)) (ab : Int) (w : World) (H : DS m lv lb c w a [] w) (ha : a ≤ 1000) (hc : c.length ≤ 1000) (hab0 : 0 ≤ ab) (hab1 : ab ≤ 2) (hk : ((rdB lb (a + 1) : Nat) : Int) % 32 = 17) (hab : ab = 0) :
    Calls Tryz.prog 42 #[.pointer (some ⟨m, 0, none⟩), .int .i64 ab] w fun e w' => e = .returned (.tuple #[]) ∧ DeedP m lv lb c w a w' := by
  subst hab
  go_enter Tryz.func42, Tryz.ntmps42
  go_wp2_with (first
    | (go_at_call 23; first | (refine (next_c H (by omega)).mono ?_; clear H; rintro e W ⟨rfl, H, -⟩))
    | (go_at_call 60; refine (number_c H (by omega) (by simp; omega)).mono ?_; clear H; rintro e W ⟨rfl, H⟩)
    | (go_at_call 61; refine (mark_c H (by omega) (by simp; omega)).mono ?_; clear H; rintro e W ⟨rfl, H⟩)
    | (go_at_call 43; refine (local_c H _ (by simp; omega) (by omega) (by omega)).mono ?_; clear H; rintro e W ⟨rfl, H⟩)
    | (go_at_call 22; refine (emit_c H _ _ (by simp; omega) (by first | exact gd0 (by omega) | exact gd1 (by omega) (by omega) (by omega))).mono ?_; clear H; rintro e W ⟨rfl, H⟩))
  go_end0
  exact ⟨rfl, _, _, H, by omega, by simp, by simp⟩
set_option maxRecDepth 100000 in
set_option maxHeartbeats 2000000 in
theorem deed18 (m : Nat) (lv : Value) (lb : List UInt8) (a : Nat) (c : List (Int × Int)) (ab : Int) (w : World) (H : DS m lv lb c w a [] w) (ha : a ≤ 1000) (hc : c.length ≤ 1000) (_ : 0 ≤ ab) (_ : ab ≤ 2) (hk : ((rdB lb (a + 1) : Nat) : Int) % 32 = 18) :
    Calls Tryz.prog 42 #[.pointer (some ⟨m, 0, none⟩), .int .i64 ab] w fun e w' => e = .returned (.tuple #[]) ∧ DeedP m lv lb c w a w' := by
  go_enter Tryz.func42, Tryz.ntmps42
  go_wp2_with (first
    | (go_at_call 23; first | (refine (next_c H (by omega)).mono ?_; clear H; rintro e W ⟨rfl, H, -⟩))
    | (go_at_call 60; refine (number_c H (by omega) (by simp; omega)).mono ?_; clear H; rintro e W ⟨rfl, H⟩)
    | (go_at_call 61; refine (mark_c H (by omega) (by simp; omega)).mono ?_; clear H; rintro e W ⟨rfl, H⟩)
    | (go_at_call 43; refine (local_c H _ (by simp; omega) (by omega) (by omega)).mono ?_; clear H; rintro e W ⟨rfl, H⟩)
    | (go_at_call 22; refine (emit_c H _ _ (by simp; omega) (by first | exact gd0 (by omega) | exact gd1 (by omega) (by omega) (by omega))).mono ?_; clear H; rintro e W ⟨rfl, H⟩))
  go_end0
  exact ⟨rfl, _, _, H, by omega, by simp, by simp⟩
set_option maxRecDepth 100000 in
set_option maxHeartbeats 2000000 in
theorem deed19p_0 (m : Nat) (lv : Value) (lb : List UInt8) (a : Nat) (c : List (Int × Int)) (ab : Int) (w : World) (H : DS m lv lb c w a [] w) (ha : a ≤ 1000) (hc : c.length ≤ 1000) (hab0 : 0 ≤ ab) (hab1 : ab ≤ 2) (hk : ((rdB lb (a + 1) : Nat) : Int) % 32 = 19) (hab : 0 < ab) (hy : ((rdB lb (a + 1 + 1) : Nat) : Int) % 4 = 0) :
    Calls Tryz.prog 42 #[.pointer (some ⟨m, 0, none⟩), .int .i64 ab] w fun e w' => e = .returned (.tuple #[]) ∧ DeedP m lv lb c w a w' := by
  go_enter Tryz.func42, Tryz.ntmps42
  go_wp2_with (first
    | (go_at_call 23; first | (refine (next_c H (by omega)).mono ?_; clear H; rintro e W ⟨rfl, H, -⟩) | (have hne := Nat.ne_of_gt H.mak.lt; refine (next_c (H.al _) (by omega)).mono ?_; clear H; rintro e W2 ⟨rfl, H, hK⟩; have hA := hK.keep (heap_alloc_new W (.cells #[.int .i64 2, .int .i64 0, .int .i64 3, .int .i64 4] 3)) hne; have a0 := Mem.cell (v := .int .i64 2) hA 0 rfl; have a1 := Mem.cell (v := .int .i64 0) hA 1 rfl; have a2 := Mem.cell (v := .int .i64 3) hA 2 rfl; have a3 := Mem.cell (v := .int .i64 4) hA 3 rfl))
    | (go_at_call 60; refine (number_c H (by omega) (by simp; omega)).mono ?_; clear H; rintro e W ⟨rfl, H⟩)
    | (go_at_call 61; refine (mark_c H (by omega) (by simp; omega)).mono ?_; clear H; rintro e W ⟨rfl, H⟩)
    | (go_at_call 43; refine (local_c H _ (by simp; omega) (by omega) (by omega)).mono ?_; clear H; rintro e W ⟨rfl, H⟩)
    | (go_at_call 22; refine (emit_c H _ _ (by simp; omega) (by first | exact gd0 (by omega) | exact gd1 (by omega) (by omega) (by omega))).mono ?_; clear H; rintro e W ⟨rfl, H⟩))
  go_end0
  exact ⟨rfl, _, _, H, by omega, by simp, by simp⟩
set_option maxRecDepth 100000 in
set_option maxHeartbeats 2000000 in
theorem deed19p_1 (m : Nat) (lv : Value) (lb : List UInt8) (a : Nat) (c : List (Int × Int)) (ab : Int) (w : World) (H : DS m lv lb c w a [] w) (ha : a ≤ 1000) (hc : c.length ≤ 1000) (hab0 : 0 ≤ ab) (hab1 : ab ≤ 2) (hk : ((rdB lb (a + 1) : Nat) : Int) % 32 = 19) (hab : 0 < ab) (hy : ((rdB lb (a + 1 + 1) : Nat) : Int) % 4 = 1) :
    Calls Tryz.prog 42 #[.pointer (some ⟨m, 0, none⟩), .int .i64 ab] w fun e w' => e = .returned (.tuple #[]) ∧ DeedP m lv lb c w a w' := by
  go_enter Tryz.func42, Tryz.ntmps42
  go_wp2_with (first
    | (go_at_call 23; first | (refine (next_c H (by omega)).mono ?_; clear H; rintro e W ⟨rfl, H, -⟩) | (have hne := Nat.ne_of_gt H.mak.lt; refine (next_c (H.al _) (by omega)).mono ?_; clear H; rintro e W2 ⟨rfl, H, hK⟩; have hA := hK.keep (heap_alloc_new W (.cells #[.int .i64 2, .int .i64 0, .int .i64 3, .int .i64 4] 3)) hne; have a0 := Mem.cell (v := .int .i64 2) hA 0 rfl; have a1 := Mem.cell (v := .int .i64 0) hA 1 rfl; have a2 := Mem.cell (v := .int .i64 3) hA 2 rfl; have a3 := Mem.cell (v := .int .i64 4) hA 3 rfl))
    | (go_at_call 60; refine (number_c H (by omega) (by simp; omega)).mono ?_; clear H; rintro e W ⟨rfl, H⟩)
    | (go_at_call 61; refine (mark_c H (by omega) (by simp; omega)).mono ?_; clear H; rintro e W ⟨rfl, H⟩)
    | (go_at_call 43; refine (local_c H _ (by simp; omega) (by omega) (by omega)).mono ?_; clear H; rintro e W ⟨rfl, H⟩)
    | (go_at_call 22; refine (emit_c H _ _ (by simp; omega) (by first | exact gd0 (by omega) | exact gd1 (by omega) (by omega) (by omega))).mono ?_; clear H; rintro e W ⟨rfl, H⟩))
  go_end0
  exact ⟨rfl, _, _, H, by omega, by simp, by simp⟩
set_option maxRecDepth 100000 in
set_option maxHeartbeats 2000000 in
theorem deed19p_2 (m : Nat) (lv : Value) (lb : List UInt8) (a : Nat) (c : List (Int × Int)) (ab : Int) (w : World) (H : DS m lv lb c w a [] w) (ha : a ≤ 1000) (hc : c.length ≤ 1000) (hab0 : 0 ≤ ab) (hab1 : ab ≤ 2) (hk : ((rdB lb (a + 1) : Nat) : Int) % 32 = 19) (hab : 0 < ab) (hy : ((rdB lb (a + 1 + 1) : Nat) : Int) % 4 = 2) :
    Calls Tryz.prog 42 #[.pointer (some ⟨m, 0, none⟩), .int .i64 ab] w fun e w' => e = .returned (.tuple #[]) ∧ DeedP m lv lb c w a w' := by
  go_enter Tryz.func42, Tryz.ntmps42
  go_wp2_with (first
    | (go_at_call 23; first | (refine (next_c H (by omega)).mono ?_; clear H; rintro e W ⟨rfl, H, -⟩) | (have hne := Nat.ne_of_gt H.mak.lt; refine (next_c (H.al _) (by omega)).mono ?_; clear H; rintro e W2 ⟨rfl, H, hK⟩; have hA := hK.keep (heap_alloc_new W (.cells #[.int .i64 2, .int .i64 0, .int .i64 3, .int .i64 4] 3)) hne; have a0 := Mem.cell (v := .int .i64 2) hA 0 rfl; have a1 := Mem.cell (v := .int .i64 0) hA 1 rfl; have a2 := Mem.cell (v := .int .i64 3) hA 2 rfl; have a3 := Mem.cell (v := .int .i64 4) hA 3 rfl))
    | (go_at_call 60; refine (number_c H (by omega) (by simp; omega)).mono ?_; clear H; rintro e W ⟨rfl, H⟩)
    | (go_at_call 61; refine (mark_c H (by omega) (by simp; omega)).mono ?_; clear H; rintro e W ⟨rfl, H⟩)
    | (go_at_call 43; refine (local_c H _ (by simp; omega) (by omega) (by omega)).mono ?_; clear H; rintro e W ⟨rfl, H⟩)
    | (go_at_call 22; refine (emit_c H _ _ (by simp; omega) (by first | exact gd0 (by omega) | exact gd1 (by omega) (by omega) (by omega))).mono ?_; clear H; rintro e W ⟨rfl, H⟩))
  go_end0
  exact ⟨rfl, _, _, H, by omega, by simp, by simp⟩
set_option maxRecDepth 100000 in
set_option maxHeartbeats 2000000 in
theorem deed19p_3 (m : Nat) (lv : Value) (lb : List UInt8) (a : Nat) (c : List (Int × Int)) (ab : Int) (w : World) (H : DS m lv lb c w a [] w) (ha : a ≤ 1000) (hc : c.length ≤ 1000) (hab0 : 0 ≤ ab) (hab1 : ab ≤ 2) (hk : ((rdB lb (a + 1) : Nat) : Int) % 32 = 19) (hab : 0 < ab) (hy : ((rdB lb (a + 1 + 1) : Nat) : Int) % 4 = 3) :
    Calls Tryz.prog 42 #[.pointer (some ⟨m, 0, none⟩), .int .i64 ab] w fun e w' => e = .returned (.tuple #[]) ∧ DeedP m lv lb c w a w' := by
  go_enter Tryz.func42, Tryz.ntmps42
  go_wp2_with (first
    | (go_at_call 23; first | (refine (next_c H (by omega)).mono ?_; clear H; rintro e W ⟨rfl, H, -⟩) | (have hne := Nat.ne_of_gt H.mak.lt; refine (next_c (H.al _) (by omega)).mono ?_; clear H; rintro e W2 ⟨rfl, H, hK⟩; have hA := hK.keep (heap_alloc_new W (.cells #[.int .i64 2, .int .i64 0, .int .i64 3, .int .i64 4] 3)) hne; have a0 := Mem.cell (v := .int .i64 2) hA 0 rfl; have a1 := Mem.cell (v := .int .i64 0) hA 1 rfl; have a2 := Mem.cell (v := .int .i64 3) hA 2 rfl; have a3 := Mem.cell (v := .int .i64 4) hA 3 rfl))
    | (go_at_call 60; refine (number_c H (by omega) (by simp; omega)).mono ?_; clear H; rintro e W ⟨rfl, H⟩)
    | (go_at_call 61; refine (mark_c H (by omega) (by simp; omega)).mono ?_; clear H; rintro e W ⟨rfl, H⟩)
    | (go_at_call 43; refine (local_c H _ (by simp; omega) (by omega) (by omega)).mono ?_; clear H; rintro e W ⟨rfl, H⟩)
    | (go_at_call 22; refine (emit_c H _ _ (by simp; omega) (by first | exact gd0 (by omega) | exact gd1 (by omega) (by omega) (by omega))).mono ?_; clear H; rintro e W ⟨rfl, H⟩))
  go_end0
  exact ⟨rfl, _, _, H, by omega, by simp, by simp⟩
set_option maxRecDepth 100000 in
set_option maxHeartbeats 2000000 in
theorem deed19z (m : Nat) (lv : Value) (lb : List UInt8) (a : Nat) (c : List (Int × Int)) (ab : Int) (w : World) (H : DS m lv lb c w a [] w) (ha : a ≤ 1000) (hc : c.length ≤ 1000) (hab0 : 0 ≤ ab) (hab1 : ab ≤ 2) (hk : ((rdB lb (a + 1) : Nat) : Int) % 32 = 19) (hab : ab = 0) :
    Calls Tryz.prog 42 #[.pointer (some ⟨m, 0, none⟩), .int .i64 ab] w fun e w' => e = .returned (.tuple #[]) ∧ DeedP m lv lb c w a w' := by
  subst hab
  go_enter Tryz.func42, Tryz.ntmps42
  go_wp2_with (first
    | (go_at_call 23; first | (refine (next_c H (by omega)).mono ?_; clear H; rintro e W ⟨rfl, H, -⟩))
    | (go_at_call 60; refine (number_c H (by omega) (by simp; omega)).mono ?_; clear H; rintro e W ⟨rfl, H⟩)
    | (go_at_call 61; refine (mark_c H (by omega) (by simp; omega)).mono ?_; clear H; rintro e W ⟨rfl, H⟩)
    | (go_at_call 43; refine (local_c H _ (by simp; omega) (by omega) (by omega)).mono ?_; clear H; rintro e W ⟨rfl, H⟩)
    | (go_at_call 22; refine (emit_c H _ _ (by simp; omega) (by first | exact gd0 (by omega) | exact gd1 (by omega) (by omega) (by omega))).mono ?_; clear H; rintro e W ⟨rfl, H⟩))
  go_end0
  exact ⟨rfl, _, _, H, by omega, by simp, by simp⟩
set_option maxRecDepth 100000 in
set_option maxHeartbeats 2000000 in
theorem deed20p_0 (m : Nat) (lv : Value) (lb : List UInt8) (a : Nat) (c : List (Int × Int)) (ab : Int) (w : World) (H : DS m lv lb c w a [] w) (ha : a ≤ 1000) (hc : c.length ≤ 1000) (hab0 : 0 ≤ ab) (hab1 : ab ≤ 2) (hk : ((rdB lb (a + 1) : Nat) : Int) % 32 = 20) (hab : 0 < ab) (hy : ((rdB lb (a + 1 + 1) : Nat) : Int) % 4 = 0) :
    Calls Tryz.prog 42 #[.pointer (some ⟨m, 0, none⟩), .int .i64 ab] w fun e w' => e = .returned (.tuple #[]) ∧ DeedP m lv lb c w a w' := by
  go_enter Tryz.func42, Tryz.ntmps42
  go_wp2_with (first
    | (go_at_call 23; first | (refine (next_c H (by omega)).mono ?_; clear H; rintro e W ⟨rfl, H, -⟩) | (have hne := Nat.ne_of_gt H.mak.lt; refine (next_c (H.al _) (by omega)).mono ?_; clear H; rintro e W2 ⟨rfl, H, hK⟩; have hA := hK.keep (heap_alloc_new W (.cells #[.int .i64 2, .int .i64 0, .int .i64 3, .int .i64 4] 3)) hne; have a0 := Mem.cell (v := .int .i64 2) hA 0 rfl; have a1 := Mem.cell (v := .int .i64 0) hA 1 rfl; have a2 := Mem.cell (v := .int .i64 3) hA 2 rfl; have a3 := Mem.cell (v := .int .i64 4) hA 3 rfl))
    | (go_at_call 60; refine (number_c H (by omega) (by simp; omega)).mono ?_; clear H; rintro e W ⟨rfl, H⟩)
    | (go_at_call 61; refine (mark_c H (by omega) (by simp; omega)).mono ?_; clear H; rintro e W ⟨rfl, H⟩)
    | (go_at_call 43; refine (local_c H _ (by simp; omega) (by omega) (by omega)).mono ?_; clear H; rintro e W ⟨rfl, H⟩)
    | (go_at_call 22; refine (emit_c H _ _ (by simp; omega) (by first | exact gd0 (by omega) | exact gd1 (by omega) (by omega) (by omega))).mono ?_; clear H; rintro e W ⟨rfl, H⟩))
  go_end0
  exact ⟨rfl, _, _, H, by omega, by simp, by simp⟩
end Go.Proofs.YtiggallcoocdaaaGreatDoor
