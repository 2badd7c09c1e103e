/- The maker's deed, choice by choice. -/
import Derived.Test.YtiggallcoocdaaaGreatDoorZB
namespace Go.Proofs.YtiggallcoocdaaaGreatDoor
open Go.RowKit
set_option maxRecDepth 100000 in
set_option maxHeartbeats 2000000 in
theorem deed0 (m : Nat) (lv : Value) (lb : List UInt8) (a : Nat) (c : List (Int × Int)) (ab : Int) (w : World) (H : DS m lv lb c w a [] w) (ha : a ≤ 1000) (hc : c.length ≤ 1000) (_ : 0 ≤ ab) (_ : ab ≤ 2) (hk : ((rdB lb (a + 1) : Nat) : Int) % 32 = 0) :
    Calls Tryz.prog 42 #[.pointer (some ⟨m, 0, none⟩), .int .i64 ab] w fun e w' => e = .returned (.tuple #[]) ∧ DeedP m lv lb c w a w' := by
  go_enter Tryz.func42, Tryz.ntmps42
  go_wp2_with (first
    | (go_at_call 23; first | (refine (next_c H (by omega)).mono ?_; clear H; rintro e W ⟨rfl, H, -⟩))
    | (go_at_call 60; refine (number_c H (by omega) (by simp; omega)).mono ?_; clear H; rintro e W ⟨rfl, H⟩)
    | (go_at_call 61; refine (mark_c H (by omega) (by simp; omega)).mono ?_; clear H; rintro e W ⟨rfl, H⟩)
    | (go_at_call 43; refine (local_c H _ (by simp; omega) (by omega) (by omega)).mono ?_; clear H; rintro e W ⟨rfl, H⟩)
    | (go_at_call 22; refine (emit_c H _ _ (by simp; omega) (by first | exact gd0 (by omega) | exact gd1 (by omega) (by omega) (by omega))).mono ?_; clear H; rintro e W ⟨rfl, H⟩))
  go_end0
  exact ⟨rfl, _, _, H, by omega, by simp, by simp⟩
set_option maxRecDepth 100000 in
set_option maxHeartbeats 2000000 in
theorem deed1 (m : Nat) (lv : Value) (lb : List UInt8) (a : Nat) (c : List (Int × Int)) (ab : Int) (w : World) (H : DS m lv lb c w a [] w) (ha : a ≤ 1000) (hc : c.length ≤ 1000) (_ : 0 ≤ ab) (_ : ab ≤ 2) (hk : ((rdB lb (a + 1) : Nat) : Int) % 32 = 1) :
    Calls Tryz.prog 42 #[.pointer (some ⟨m, 0, none⟩), .int .i64 ab] w fun e w' => e = .returned (.tuple #[]) ∧ DeedP m lv lb c w a w' := by
  go_enter Tryz.func42, Tryz.ntmps42
  go_wp2_with (first
    | (go_at_call 23; first | (refine (next_c H (by omega)).mono ?_; clear H; rintro e W ⟨rfl, H, -⟩))
    | (go_at_call 60; refine (number_c H (by omega) (by simp; omega)).mono ?_; clear H; rintro e W ⟨rfl, H⟩)
    | (go_at_call 61; refine (mark_c H (by omega) (by simp; omega)).mono ?_; clear H; rintro e W ⟨rfl, H⟩)
    | (go_at_call 43; refine (local_c H _ (by simp; omega) (by omega) (by omega)).mono ?_; clear H; rintro e W ⟨rfl, H⟩)
    | (go_at_call 22; refine (emit_c H _ _ (by simp; omega) (by first | exact gd0 (by omega) | exact gd1 (by omega) (by omega) (by omega))).mono ?_; clear H; rintro e W ⟨rfl, H⟩))
  go_end0
  exact ⟨rfl, _, _, H, by omega, by simp, by simp⟩
set_option maxRecDepth 100000 in
set_option maxHeartbeats 2000000 in
theorem deed2 (m : Nat) (lv : Value) (lb : List UInt8) (a : Nat) (c : List (Int × Int)) (ab : Int) (w : World) (H : DS m lv lb c w a [] w) (ha : a ≤ 1000) (hc : c.length ≤ 1000) (_ : 0 ≤ ab) (_ : ab ≤ 2) (hk : ((rdB lb (a + 1) : Nat) : Int) % 32 = 2) :
    Calls Tryz.prog 42 #[.pointer (some ⟨m, 0, none⟩), .int .i64 ab] w fun e w' => e = .returned (.tuple #[]) ∧ DeedP m lv lb c w a w' := by
  go_enter Tryz.func42, Tryz.ntmps42
  go_wp2_with (first
    | (go_at_call 23; first | (refine (next_c H (by omega)).mono ?_; clear H; rintro e W ⟨rfl, H, -⟩))
    | (go_at_call 60; refine (number_c H (by omega) (by simp; omega)).mono ?_; clear H; rintro e W ⟨rfl, H⟩)
    | (go_at_call 61; refine (mark_c H (by omega) (by simp; omega)).mono ?_; clear H; rintro e W ⟨rfl, H⟩)
    | (go_at_call 43; refine (local_c H _ (by simp; omega) (by omega) (by omega)).mono ?_; clear H; rintro e W ⟨rfl, H⟩)
    | (go_at_call 22; refine (emit_c H _ _ (by simp; omega) (by first | exact gd0 (by omega) | exact gd1 (by omega) (by omega) (by omega))).mono ?_; clear H; rintro e W ⟨rfl, H⟩))
  go_end0
  exact ⟨rfl, _, _, H, by omega, by simp, by simp⟩
set_option maxRecDepth 100000 in
set_option maxHeartbeats 2000000 in
theorem deed3 (m : Nat) (lv : Value) (lb : List UInt8) (a : Nat) (c : List (Int × Int)) (ab : Int) (w : World) (H : DS m lv lb c w a [] w) (ha : a ≤ 1000) (hc : c.length ≤ 1000) (_ : 0 ≤ ab) (_ : ab ≤ 2) (hk : ((rdB lb (a + 1) : Nat) : Int) % 32 = 3) :
    Calls Tryz.prog 42 #[.pointer (some ⟨m, 0, none⟩), .int .i64 ab] w fun e w' => e = .returned (.tuple #[]) ∧ DeedP m lv lb c w a w' := by
  go_enter Tryz.func42, Tryz.ntmps42
  go_wp2_with (first
    | (go_at_call 23; first | (refine (next_c H (by omega)).mono ?_; clear H; rintro e W ⟨rfl, H, -⟩))
    | (go_at_call 60; refine (number_c H (by omega) (by simp; omega)).mono ?_; clear H; rintro e W ⟨rfl, H⟩)
    | (go_at_call 61; refine (mark_c H (by omega) (by simp; omega)).mono ?_; clear H; rintro e W ⟨rfl, H⟩)
    | (go_at_call 43; refine (local_c H _ (by simp; omega) (by omega) (by omega)).mono ?_; clear H; rintro e W ⟨rfl, H⟩)
    | (go_at_call 22; refine (emit_c H _ _ (by simp; omega) (by first | exact gd0 (by omega) | exact gd1 (by omega) (by omega) (by omega))).mono ?_; clear H; rintro e W ⟨rfl, H⟩))
  go_end0
  exact ⟨rfl, _, _, H, by omega, by simp, by simp⟩
set_option maxRecDepth 100000 in
set_option maxHeartbeats 2000000 in
theorem deed4 (m : Nat) (lv : Value) (lb : List UInt8) (a : Nat) (c : List (Int × Int)) (ab : Int) (w : World) (H : DS m lv lb c w a [] w) (ha : a ≤ 1000) (hc : c.length ≤ 1000) (_ : 0 ≤ ab) (_ : ab ≤ 2) (hk : ((rdB lb (a + 1) : Nat) : Int) % 32 = 4) :
    Calls Tryz.prog 42 #[.pointer (some ⟨m, 0, none⟩), .int .i64 ab] w fun e w' => e = .returned (.tuple #[]) ∧ DeedP m lv lb c w a w' := by
  go_enter Tryz.func42, Tryz.ntmps42
  go_wp2_with (first
    | (go_at_call 23; first | (refine (next_c H (by omega)).mono ?_; clear H; rintro e W ⟨rfl, H, -⟩))
    | (go_at_call 60; refine (number_c H (by omega) (by simp; omega)).mono ?_; clear H; rintro e W ⟨rfl, H⟩)
    | (go_at_call 61; refine (mark_c H (by omega) (by simp; omega)).mono ?_; clear H; rintro e W ⟨rfl, H⟩)
    | (go_at_call 43; refine (local_c H _ (by simp; omega) (by omega) (by omega)).mono ?_; clear H; rintro e W ⟨rfl, H⟩)
    | (go_at_call 22; refine (emit_c H _ _ (by simp; omega) (by first | exact gd0 (by omega) | exact gd1 (by omega) (by omega) (by omega))).mono ?_; clear H; rintro e W ⟨rfl, H⟩))
  go_end0
  exact ⟨rfl, _, _, H, by omega, by simp, by simp⟩
set_option maxRecDepth 100000 in
set_option maxHeartbeats 2000000 in
theorem deed5 (m : Nat) (lv : Value) (lb : List UInt8) (a : Nat) (c : List (Int × Int)) (ab : Int) (w : World) (H : DS m lv lb c w a [] w) (ha : a ≤ 1000) (hc : c.length ≤ 1000) (_ : 0 ≤ ab) (_ : ab ≤ 2) (hk : ((rdB lb (a + 1) : Nat) : Int) % 32 = 5) :
    Calls Tryz.prog 42 #[.pointer (some ⟨m, 0, none⟩), .int .i64 ab] w fun e w' => e = .returned (.tuple #[]) ∧ DeedP m lv lb c w a w' := by
  go_enter Tryz.func42, Tryz.ntmps42
  go_wp2_with (first
    | (go_at_call 23; first | (refine (next_c H (by omega)).mono ?_; clear H; rintro e W ⟨rfl, H, -⟩))
    | (go_at_call 60; refine (number_c H (by omega) (by simp; omega)).mono ?_; clear H; rintro e W ⟨rfl, H⟩)
    | (go_at_call 61; refine (mark_c H (by omega) (by simp; omega)).mono ?_; clear H; rintro e W ⟨rfl, H⟩)
    | (go_at_call 43; refine (local_c H _ (by simp; omega) (by omega) (by omega)).mono ?_; clear H; rintro e W ⟨rfl, H⟩)
    | (go_at_call 22; refine (emit_c H _ _ (by simp; omega) (by first | exact gd0 (by omega) | exact gd1 (by omega) (by omega) (by omega))).mono ?_; clear H; rintro e W ⟨rfl, H⟩))
  go_end0
  exact ⟨rfl, _, _, H, by omega, by simp, by simp⟩
set_option maxRecDepth 100000 in
set_option maxHeartbeats 2000000 in
theorem deed6_0 (m : Nat) (lv : Value) (lb : List UInt8) (a : Nat) (c : List (Int × Int)) (ab : Int) (w : World) (H : DS m lv lb c w a [] w) (ha : a ≤ 1000) (hc : c.length ≤ 1000) (_ : 0 ≤ ab) (_ : ab ≤ 2) (hk : ((rdB lb (a + 1) : Nat) : Int) % 32 = 6) (hy : ((rdB lb (a + 1 + 1) : Nat) : Int) % 4 = 0) :
    Calls Tryz.prog 42 #[.pointer (some ⟨m, 0, none⟩), .int .i64 ab] w fun e w' => e = .returned (.tuple #[]) ∧ DeedP m lv lb c w a w' := by
  go_enter Tryz.func42, Tryz.ntmps42
  go_wp2_with (first
    | (go_at_call 23; first | (refine (next_c H (by omega)).mono ?_; clear H; rintro e W ⟨rfl, H, -⟩) | (have hne := Nat.ne_of_gt H.mak.lt; refine (next_c (H.al _) (by omega)).mono ?_; clear H; rintro e W2 ⟨rfl, H, hK⟩; have hA := hK.keep (heap_alloc_new W (.cells #[.int .i64 0, .int .i64 2, .int .i64 2, .int .i64 (((rdB lb a : Nat) : Int) % 8)] 3)) hne; have a0 := Mem.cell (v := .int .i64 0) hA 0 rfl; have a1 := Mem.cell (v := .int .i64 2) hA 1 rfl; have a2 := Mem.cell (v := .int .i64 2) hA 2 rfl; have a3 := Mem.cell (v := .int .i64 (((rdB lb a : Nat) : Int) % 8)) hA 3 rfl))
    | (go_at_call 60; refine (number_c H (by omega) (by simp; omega)).mono ?_; clear H; rintro e W ⟨rfl, H⟩)
    | (go_at_call 61; refine (mark_c H (by omega) (by simp; omega)).mono ?_; clear H; rintro e W ⟨rfl, H⟩)
    | (go_at_call 43; refine (local_c H _ (by simp; omega) (by omega) (by omega)).mono ?_; clear H; rintro e W ⟨rfl, H⟩)
    | (go_at_call 22; refine (emit_c H _ _ (by simp; omega) (by first | exact gd0 (by omega) | exact gd1 (by omega) (by omega) (by omega))).mono ?_; clear H; rintro e W ⟨rfl, H⟩))
  go_end0
  exact ⟨rfl, _, _, H, by omega, by simp, by simp⟩
set_option maxRecDepth 100000 in
set_option maxHeartbeats 2000000 in
theorem deed6_1 (m : Nat) (lv : Value) (lb : List UInt8) (a : Nat) (c : List (Int × Int)) (ab : Int) (w : World) (H : DS m lv lb c w a [] w) (ha : a ≤ 1000) (hc : c.length ≤ 1000) (_ : 0 ≤ ab) (_ : ab ≤ 2) (hk : ((rdB lb (a + 1) : Nat) : Int) % 32 = 6) (hy : ((rdB lb (a + 1 + 1) : Nat) : Int) % 4 = 1) :
    Calls Tryz.prog 42 #[.pointer (some ⟨m, 0, none⟩), .int .i64 ab] w fun e w' => e = .returned (.tuple #[]) ∧ DeedP m lv lb c w a w' := by
  go_enter Tryz.func42, Tryz.ntmps42
  go_wp2_with (first
    | (go_at_call 23; first | (refine (next_c H (by omega)).mono ?_; clear H; rintro e W ⟨rfl, H, -⟩) | (have hne := Nat.ne_of_gt H.mak.lt; refine (next_c (H.al _) (by omega)).mono ?_; clear H; rintro e W2 ⟨rfl, H, hK⟩; have hA := hK.keep (heap_alloc_new W (.cells #[.int .i64 0, .int .i64 2, .int .i64 2, .int .i64 (((rdB lb a : Nat) : Int) % 8)] 3)) hne; have a0 := Mem.cell (v := .int .i64 0) hA 0 rfl; have a1 := Mem.cell (v := .int .i64 2) hA 1 rfl; have a2 := Mem.cell (v := .int .i64 2) hA 2 rfl; have a3 := Mem.cell (v := .int .i64 (((rdB lb a : Nat) : Int) % 8)) hA 3 rfl))
    | (go_at_call 60; refine (number_c H (by omega) (by simp; omega)).mono ?_; clear H; rintro e W ⟨rfl, H⟩)
    | (go_at_call 61; refine (mark_c H (by omega) (by simp; omega)).mono ?_; clear H; rintro e W ⟨rfl, H⟩)
    | (go_at_call 43; refine (local_c H _ (by simp; omega) (by omega) (by omega)).mono ?_; clear H; rintro e W ⟨rfl, H⟩)
    | (go_at_call 22; refine (emit_c H _ _ (by simp; omega) (by first | exact gd0 (by omega) | exact gd1 (by omega) (by omega) (by omega))).mono ?_; clear H; rintro e W ⟨rfl, H⟩))
  go_end0
  exact ⟨rfl, _, _, H, by omega, by simp, by simp⟩
set_option maxRecDepth 100000 in
set_option maxHeartbeats 2000000 in
theorem deed6_2 (m : Nat) (lv : Value) (lb : List UInt8) (a : Nat) (c : List (Int × Int)) (ab : Int) (w : World) (H : DS m lv lb c w a [] w) (ha : a ≤ 1000) (hc : c.length ≤ 1000) (_ : 0 ≤ ab) (_ : ab ≤ 2) (hk : ((rdB lb (a + 1) : Nat) : Int) % 32 = 6) (hy : ((rdB lb (a + 1 + 1) : Nat) : Int) % 4 = 2) :
    Calls Tryz.prog 42 #[.pointer (some ⟨m, 0, none⟩), .int .i64 ab] w fun e w' => e = .returned (.tuple #[]) ∧ DeedP m lv lb c w a w' := by
  go_enter Tryz.func42, Tryz.ntmps42
  go_wp2_with (first
    | (go_at_call 23; first | (refine (next_c H (by omega)).mono ?_; clear H; rintro e W ⟨rfl, H, -⟩) | (have hne := Nat.ne_of_gt H.mak.lt; refine (next_c (H.al _) (by omega)).mono ?_; clear H; rintro e W2 ⟨rfl, H, hK⟩; have hA := hK.keep (heap_alloc_new W (.cells #[.int .i64 0, .int .i64 2, .int .i64 2, .int .i64 (((rdB lb a : Nat) : Int) % 8)] 3)) hne; have a0 := Mem.cell (v := .int .i64 0) hA 0 rfl; have a1 := Mem.cell (v := .int .i64 2) hA 1 rfl; have a2 := Mem.cell (v := .int .i64 2) hA 2 rfl; have a3 := Mem.cell (v := .int .i64 (((rdB lb a : Nat) : Int) % 8)) hA 3 rfl))
    | (go_at_call 60; refine (number_c H (by omega) (by simp; omega)).mono ?_; clear H; rintro e W ⟨rfl, H⟩)
    | (go_at_call 61; refine (mark_c H (by omega) (by simp; omega)).mono ?_; clear H; rintro e W ⟨rfl, H⟩)
    | (go_at_call 43; refine (local_c H _ (by simp; omega) (by omega) (by omega)).mono ?_; clear H; rintro e W ⟨rfl, H⟩)
    | (go_at_call 22; refine (emit_c H _ _ (by simp; omega) (by first | exact gd0 (by omega) | exact gd1 (by omega) (by omega) (by omega))).mono ?_; clear H; rintro e W ⟨rfl, H⟩))
  go_end0
  exact ⟨rfl, _, _, H, by omega, by simp, by simp⟩
set_option maxRecDepth 100000 in
set_option maxHeartbeats 2000000 in
theorem deed6_3 (m : Nat) (lv : Value) (lb : List UInt8) (a : Nat) (c : List (Int × Int)) (ab : Int) (w : World) (H : DS m lv lb c w a [] w) (ha : a ≤ 1000) (hc : c.length ≤ 1000) (_ : 0 ≤ ab) (_ : ab ≤ 2) (hk : ((rdB lb (a + 1) : Nat) : Int) % 32 = 6) (hy : ((rdB lb (a + 1 + 1) : Nat) : Int) % 4 = 3) :
    Calls Tryz.prog 42 #[.pointer (some ⟨m, 0, none⟩), .int .i64 ab] w fun e w' => e = .returned (.tuple #[]) ∧ DeedP m lv lb c w a w' := by
  go_enter Tryz.func42, Tryz.ntmps42
  go_wp2_with (first
    | (go_at_call 23; first | (refine (next_c H (by omega)).mono ?_; clear H; rintro e W ⟨rfl, H, -⟩) | (have hne := Nat.ne_of_gt H.mak.lt; refine (next_c (H.al _) (by omega)).mono ?_; clear H; rintro e W2 ⟨rfl, H, hK⟩; have hA := hK.keep (heap_alloc_new W (.cells #[.int .i64 0, .int .i64 2, .int .i64 2, .int .i64 (((rdB lb a : Nat) : Int) % 8)] 3)) hne; have a0 := Mem.cell (v := .int .i64 0) hA 0 rfl; have a1 := Mem.cell (v := .int .i64 2) hA 1 rfl; have a2 := Mem.cell (v := .int .i64 2) hA 2 rfl; have a3 := Mem.cell (v := .int .i64 (((rdB lb a : Nat) : Int) % 8)) hA 3 rfl))
    | (go_at_call 60; refine (number_c H (by omega) (by simp; omega)).mono ?_; clear H; rintro e W ⟨rfl, H⟩)
    | (go_at_call 61; refine (mark_c H (by omega) (by simp; omega)).mono ?_; clear H; rintro e W ⟨rfl, H⟩)
    | (go_at_call 43; refine (local_c H _ (by simp; omega) (by omega) (by omega)).mono ?_; clear H; rintro e W ⟨rfl, H⟩)
    | (go_at_call 22; refine (emit_c H _ _ (by simp; omega) (by first | exact gd0 (by omega) | exact gd1 (by omega) (by omega) (by omega))).mono ?_; clear H; rintro e W ⟨rfl, H⟩))
  go_end0
  exact ⟨rfl, _, _, H, by omega, by simp, by simp⟩
set_option maxRecDepth 100000 in
set_option maxHeartbeats 2000000 in
theorem deed7_0 (m : Nat) (lv : Value) (lb : List UInt8) (a : Nat) (c : List (Int × Int)) (ab : Int) (w : World) (H : DS m lv lb c w a [] w) (ha : a ≤ 1000) (hc : c.length ≤ 1000) (_ : 0 ≤ ab) (_ : ab ≤ 2) (hk : ((rdB lb (a + 1) : Nat) : Int) % 32 = 7) (hy : ((rdB lb (a + 1 + 1) : Nat) : Int) % 4 = 0) :
    Calls Tryz.prog 42 #[.pointer (some ⟨m, 0, none⟩), .int .i64 ab] w fun e w' => e = .returned (.tuple #[]) ∧ DeedP m lv lb c w a w' := by
  go_enter Tryz.func42, Tryz.ntmps42
  go_wp2_with (first
    | (go_at_call 23; first | (refine (next_c H (by omega)).mono ?_; clear H; rintro e W ⟨rfl, H, -⟩) | (have hne := Nat.ne_of_gt H.mak.lt; refine (next_c (H.al _) (by omega)).mono ?_; clear H; rintro e W2 ⟨rfl, H, hK⟩; have hA := hK.keep (heap_alloc_new W (.cells #[.int .i64 0, .int .i64 2, .int .i64 2, .int .i64 (((rdB lb a : Nat) : Int) % 8)] 3)) hne; have a0 := Mem.cell (v := .int .i64 0) hA 0 rfl; have a1 := Mem.cell (v := .int .i64 2) hA 1 rfl; have a2 := Mem.cell (v := .int .i64 2) hA 2 rfl; have a3 := Mem.cell (v := .int .i64 (((rdB lb a : Nat) : Int) % 8)) hA 3 rfl))
    | (go_at_call 60; refine (number_c H (by omega) (by simp; omega)).mono ?_; clear H; rintro e W ⟨rfl, H⟩)
    | (go_at_call 61; refine (mark_c H (by omega) (by simp; omega)).mono ?_; clear H; rintro e W ⟨rfl, H⟩)
    | (go_at_call 43; refine (local_c H _ (by simp; omega) (by omega) (by omega)).mono ?_; clear H; rintro e W ⟨rfl, H⟩)
    | (go_at_call 22; refine (emit_c H _ _ (by simp; omega) (by first | exact gd0 (by omega) | exact gd1 (by omega) (by omega) (by omega))).mono ?_; clear H; rintro e W ⟨rfl, H⟩))
  go_end0
  exact ⟨rfl, _, _, H, by omega, by simp, by simp⟩
set_option maxRecDepth 100000 in
set_option maxHeartbeats 2000000 in
theorem deed7_1 (m : Nat) (lv : Value) (lb : List UInt8) (a : Nat) (c : List (Int × Int)) (ab : Int) (w : World) (H : DS m lv lb c w a [] w) (ha : a ≤ 1000) (hc : c.length ≤ 1000) (_ : 0 ≤ ab) (_ : ab ≤ 2) (hk : ((rdB lb (a + 1) : Nat) : Int) % 32 = 7) (hy : ((rdB lb (a + 1 + 1) : Nat) : Int) % 4 = 1) :
    Calls Tryz.prog 42 #[.pointer (some ⟨m, 0, none⟩), .int .i64 ab] w fun e w' => e = .returned (.tuple #[]) ∧ DeedP m lv lb c w a w' := by
  go_enter Tryz.func42, Tryz.ntmps42
  go_wp2_with (first
    | (go_at_call 23; first | (refine (next_c H (by omega)).mono ?_; clear H; rintro e W ⟨rfl, H, -⟩) | (have hne := Nat.ne_of_gt H.mak.lt; refine (next_c (H.al _) (by omega)).mono ?_; clear H; rintro e W2 ⟨rfl, H, hK⟩; have hA := hK.keep (heap_alloc_new W (.cells #[.int .i64 0, .int .i64 2, .int .i64 2, .int .i64 (((rdB lb a : Nat) : Int) % 8)] 3)) hne; have a0 := Mem.cell (v := .int .i64 0) hA 0 rfl; have a1 := Mem.cell (v := .int .i64 2) hA 1 rfl; have a2 := Mem.cell (v := .int .i64 2) hA 2 rfl; have a3 := Mem.cell (v := .int .i64 (((rdB lb a : Nat) : Int) % 8)) hA 3 rfl))
    | (go_at_call 60; refine (number_c H (by omega) (by simp; omega)).mono ?_; clear H; rintro e W ⟨rfl, H⟩)
    | (go_at_call 61; refine (mark_c H (by omega) (by simp; omega)).mono ?_; clear H; rintro e W ⟨rfl, H⟩)
    | (go_at_call 43; refine (local_c H _ (by simp; omega) (by omega) (by omega)).mono ?_; clear H; rintro e W ⟨rfl, H⟩)
    | (go_at_call 22; refine (emit_c H _ _ (by simp; omega) (by first | exact gd0 (by omega) | exact gd1 (by omega) (by omega) (by omega))).mono ?_; clear H; rintro e W ⟨rfl, H⟩))
  go_end0
  exact ⟨rfl, _, _, H, by omega, by simp, by simp⟩
set_option maxRecDepth 100000 in
set_option maxHeartbeats 2000000 in
theorem deed7_2 (m : Nat) (lv : Value) (lb : List UInt8) (a : Nat) (c : List (Int × Int)) (ab : Int) (w : World) (H : DS m lv lb c w a [] w) (ha : a ≤ 1000) (hc : c.length ≤ 1000) (_ : 0 ≤ ab) (_ : ab ≤ 2) (hk : ((rdB lb (a + 1) : Nat) : Int) % 32 = 7) (hy : ((rdB lb (a + 1 + 1) : Nat) : Int) % 4 = 2) :
    Calls Tryz.prog 42 #[.pointer (some ⟨m, 0, none⟩), .int .i64 ab] w fun e w' => e = .returned (.tuple #[]) ∧ DeedP m lv lb c w a w' := by
  go_enter Tryz.func42, Tryz.ntmps42
  go_wp2_with (first
    | (go_at_call 23; first | (refine (next_c H (by omega)).mono ?_; clear H; rintro e W ⟨rfl, H, -⟩) | (have hne := Nat.ne_of_gt H.mak.lt; refine (next_c (H.al _) (by omega)).mono ?_; clear H; rintro e W2 ⟨rfl, H, hK⟩; have hA := hK.keep (heap_alloc_new W (.cells #[.int .i64 0, .int .i64 2, .int .i64 2, .int .i64 (((rdB lb a : Nat) : Int) % 8)] 3)) hne; have a0 := Mem.cell (v := .int .i64 0) hA 0 rfl; have a1 := Mem.cell (v := .int .i64 2) hA 1 rfl; have a2 := Mem.cell (v := .int .i64 2) hA 2 rfl; have a3 := Mem.cell (v := .int .i64 (((rdB lb a : Nat) : Int) % 8)) hA 3 rfl))
    | (go_at_call 60; refine (number_c H (by omega) (by simp; omega)).mono ?_; clear H; rintro e W ⟨rfl, H⟩)
    | (go_at_call 61; refine (mark_c H (by omega) (by simp; omega)).mono ?_; clear H; rintro e W ⟨rfl, H⟩)
    | (go_at_call 43; refine (local_c H _ (by simp; omega) (by omega) (by omega)).mono ?_; clear H; rintro e W ⟨rfl, H⟩)
    | (go_at_call 22; refine (emit_c H _ _ (by simp; omega) (by first | exact gd0 (by omega) | exact gd1 (by omega) (by omega) (by omega))).mono ?_; clear H; rintro e W ⟨rfl, H⟩))
  go_end0
  exact ⟨rfl, _, _, H, by omega, by simp, by simp⟩
set_option maxRecDepth 100000 in
set_option maxHeartbeats 2000000 in
theorem deed7_3 (m : Nat) (lv : Value) (lb : List UInt8) (a : Nat) (c : List (Int × Int)) (ab : Int) (w : World) (H : DS m lv lb c w a [] w) (ha : a ≤ 1000) (hc : c.length ≤ 1000) (_ : 0 ≤ ab) (_ : ab ≤ 2) (hk : ((rdB lb (a + 1) : Nat) : Int) % 32 = 7) (hy : ((rdB lb (a + 1 + 1) : Nat) : Int) % 4 = 3) :
    Calls Tryz.prog 42 #[.pointer (some ⟨m, 0, none⟩), .int .i64 ab] w fun e w' => e = .returned (.tuple #[]) ∧ DeedP m lv lb c w a w' := by
  go_enter Tryz.func42, Tryz.ntmps42
  go_wp2_with (first
    | (go_at_call 23; first | (refine (next_c H (by omega)).mono ?_; clear H; rintro e W ⟨rfl, H, -⟩) | (have hne := Nat.ne_of_gt H.mak.lt; refine (next_c (H.al _) (by omega)).mono ?_; clear H; rintro e W2 ⟨rfl, H, hK⟩; have hA := hK.keep (heap_alloc_new W (.cells #[.int .i64 0, .int .i64 2, .int .i64 2, .int .i64 (((rdB lb a : Nat) : Int) % 8)] 3)) hne; have a0 := Mem.cell (v := .int .i64 0) hA 0 rfl; have a1 := Mem.cell (v := .int .i64 2) hA 1 rfl; have a2 := Mem.cell (v := .int .i64 2) hA 2 rfl; have a3 := Mem.cell (v := .int .i64 (((rdB lb a : Nat) : Int) % 8)) hA 3 rfl))
    | (go_at_call 60; refine (number_c H (by omega) (by simp; omega)).mono ?_; clear H; rintro e W ⟨rfl, H⟩)
    | (go_at_call 61; refine (mark_c H (by omega) (by simp; omega)).mono ?_; clear H; rintro e W ⟨rfl, H⟩)
    | (go_at_call 43; refine (local_c H _ (by simp; omega) (by omega) (by omega)).mono ?_; clear H; rintro e W ⟨rfl, H⟩)
    | (go_at_call 22; refine (emit_c H _ _ (by simp; omega) (by first | exact gd0 (by omega) | exact gd1 (by omega) (by omega) (by omega))).mono ?_; clear H; rintro e W ⟨rfl, H⟩))
  go_end0
  exact ⟨rfl, _, _, H, by omega, by simp, by simp⟩
set_option maxRecDepth 100000 in
set_option maxHeartbeats 2000000 in
theorem deed8_0 (m : Nat) (lv : Value) (lb : List UInt8) (a : Nat) (c : List (Int × Int)) (ab : Int) (w : World) (H : DS m lv lb c w a [] w) (ha : a ≤ 1000) (hc : c.length ≤ 1000) (_ : 0 ≤ ab) (_ : ab ≤ 2) (hk : ((rdB lb (a + 1) : Nat) : Int) % 32 = 8) (hy : ((rdB lb (a + 1 + 1) : Nat) : Int) % 4 = 0) :
    Calls Tryz.prog 42 #[.pointer (some ⟨m, 0, none⟩), .int .i64 ab] w fun e w' => e = .returned (.tuple #[]) ∧ DeedP m lv lb c w a w' := by
  go_enter Tryz.func42, Tryz.ntmps42
  go_wp2_with (first
    | (go_at_call 23; first | (refine (next_c H (by omega)).mono ?_; clear H; rintro e W ⟨rfl, H, -⟩) | (have hne := Nat.ne_of_gt H.mak.lt; refine (next_c (H.al _) (by omega)).mono ?_; clear H; rintro e W2 ⟨rfl, H, hK⟩; have hA := hK.keep (heap_alloc_new W (.cells #[.int .i64 0, .int .i64 2, .int .i64 2, .int .i64 (((rdB lb a : Nat) : Int) % 8)] 3)) hne; have a0 := Mem.cell (v := .int .i64 0) hA 0 rfl; have a1 := Mem.cell (v := .int .i64 2) hA 1 rfl; have a2 := Mem.cell (v := .int .i64 2) hA 2 rfl; have a3 := Mem.cell (v := .int .i64 (((rdB lb a : Nat) : Int) % 8)) hA 3 rfl))
    | (go_at_call 60; refine (number_c H (by omega) (by simp; omega)).mono ?_; clear H; rintro e W ⟨rfl, H⟩)
    | (go_at_call 61; refine (mark_c H (by omega) (by simp; omega)).mono ?_; clear H; rintro e W ⟨rfl, H⟩)
    | (go_at_call 43; refine (local_c H _ (by simp; omega) (by omega) (by omega)).mono ?_; clear H; rintro e W ⟨rfl, H⟩)
    | (go_at_call 22; refine (emit_c H _ _ (by simp; omega) (by first | exact gd0 (by omega) | exact gd1 (by omega) (by omega) (by omega))).mono ?_; clear H; rintro e W ⟨rfl, H⟩))
  go_end0
  exact ⟨rfl, _, _, H, by omega, by simp, by simp⟩
set_option maxRecDepth 100000 in
set_option maxHeartbeats 2000000 in
theorem deed8_1 (m : Nat) (lv : Value) (lb : List UInt8) (a : Nat) (c : List (Int × Int)) (ab : Int) (w : World) (H : DS m lv lb c w a [] w) (ha : a ≤ 1000) (hc : c.length ≤ 1000) (_ : 0 ≤ ab) (_ : ab ≤ 2) (hk : ((rdB lb (a + 1) : Nat) : Int) % 32 = 8) (hy : ((rdB lb (a + 1 + 1) : Nat) : Int) % 4 = 1) :
    Calls Tryz.prog 42 #[.pointer (some ⟨m, 0, none⟩), .int .i64 ab] w fun e w' => e = .returned (.tuple #[]) ∧ DeedP m lv lb c w a w' := by
  go_enter Tryz.func42, Tryz.ntmps42
  go_wp2_with (first
    | (go_at_call 23; first | (refine (next_c H (by omega)).mono ?_; clear H; rintro e W ⟨rfl, H, -⟩) | (have hne := Nat.ne_of_gt H.mak.lt; refine (next_c (H.al _) (by omega)).mono ?_; clear H; rintro e W2 ⟨rfl, H, hK⟩; have hA := hK.keep (heap_alloc_new W (.cells #[.int .i64 0, .int .i64 2, .int .i64 2, .int .i64 (((rdB lb a : Nat) : Int) % 8)] 3)) hne; have a0 := Mem.cell (v := .int .i64 0) hA 0 rfl; have a1 := Mem.cell (v := .int .i64 2) hA 1 rfl; have a2 := Mem.cell (v := .int .i64 2) hA 2 rfl; have a3 := Mem.cell (v := .int .i64 (((rdB lb a : Nat) : Int) % 8)) hA 3 rfl))
    | (go_at_call 60; refine (number_c H (by omega) (by simp; omega)).mono ?_; clear H; rintro e W ⟨rfl, H⟩)
    | (go_at_call 61; refine (mark_c H (by omega) (by simp; omega)).mono ?_; clear H; rintro e W ⟨rfl, H⟩)
    | (go_at_call 43; refine (local_c H _ (by simp; omega) (by omega) (by omega)).mono ?_; clear H; rintro e W ⟨rfl, H⟩)
    | (go_at_call 22; refine (emit_c H _ _ (by simp; omega) (by first | exact gd0 (by omega) | exact gd1 (by omega) (by omega) (by omega))).mono ?_; clear H; rintro e W ⟨rfl, H⟩))
  go_end0
  exact ⟨rfl, _, _, H, by omega, by simp, by simp⟩
set_option maxRecDepth 100000 in
set_option maxHeartbeats 2000000 in
theorem deed8_2 (m : Nat) (lv : Value) (lb : List UInt8) (a : Nat) (c : List (Int × Int)) (ab : Int) (w : World) (H : DS m lv lb c w a [] w) (ha : a ≤ 1000) (hc : c.length ≤ 1000) (_ : 0 ≤ ab) (_ : ab ≤ 2) (hk : ((rdB lb (a + 1) : Nat) : Int) % 32 = 8) (hy : ((rdB lb (a + 1 + 1) : Nat) : Int) % 4 = 2) :
    Calls Tryz.prog 42 #[.pointer (some ⟨m, 0, none⟩), .int .i64 ab] w fun e w' => e = .returned (.tuple #[]) ∧ DeedP m lv lb c w a w' := by
  go_enter Tryz.func42, Tryz.ntmps42
  go_wp2_with (first
    | (go_at_call 23; first | (refine (next_c H (by omega)).mono ?_; clear H; rintro e W ⟨rfl, H, -⟩) | (have hne := Nat.ne_of_gt H.mak.lt; refine (next_c (H.al _) (by omega)).mono ?_; clear H; rintro e W2 ⟨rfl, H, hK⟩; have hA := hK.keep (heap_alloc_new W (.cells #[.int .i64 0, .int .i64 2, .int .i64 2, .int .i64 (((rdB lb a : Nat) : Int) % 8)] 3)) hne; have a0 := Mem.cell (v := .int .i64 0) hA 0 rfl; have a1 := Mem.cell (v := .int .i64 2) hA 1 rfl; have a2 := Mem.cell (v := .int .i64 2) hA 2 rfl; have a3 := Mem.cell (v := .int .i64 (((rdB lb a : Nat) : Int) % 8)) hA 3 rfl))
    | (go_at_call 60; refine (number_c H (by omega) (by simp; omega)).mono ?_; clear H; rintro e W ⟨rfl, H⟩)
    | (go_at_call 61; refine (mark_c H (by omega) (by simp; omega)).mono ?_; clear H; rintro e W ⟨rfl, H⟩)
    | (go_at_call 43; refine (local_c H _ (by simp; omega) (by omega) (by omega)).mono ?_; clear H; rintro e W ⟨rfl, H⟩)
    | (go_at_call 22; refine (emit_c H _ _ (by simp; omega) (by first | exact gd0 (by omega) | exact gd1 (by omega) (by omega) (by omega))).mono ?_; clear H; rintro e W ⟨rfl, H⟩))
  go_end0
  exact ⟨rfl, _, _, H, by omega, by simp, by simp⟩
set_option maxRecDepth 100000 in
set_option maxHeartbeats 2000000 in
theorem deed8_3 (m : Nat) (lv : Value) (lb : List UInt8) (a : Nat) (c : List (Int × Int)) (ab : Int) (w : World) (H : DS m lv lb c w a [] w) (ha : a ≤ 1000) (hc : c.length ≤ 1000) (_ : 0 ≤ ab) (_ : ab ≤ 2) (hk : ((rdB lb (a + 1) : Nat) : Int) % 32 = 8) (hy : ((rdB lb (a + 1 + 1) : Nat) : Int) % 4 = 3) :
    Calls Tryz.prog 42 #[.pointer (some ⟨m, 0, none⟩), .int .i64 ab] w fun e w' => e = .returned (.tuple #[]) ∧ DeedP m lv lb c w a w' := by
  go_enter Tryz.func42, Tryz.ntmps42
  go_wp2_with (first
    | (go_at_call 23; first | (refine (next_c H (by omega)).mono ?_; clear H; rintro e W ⟨rfl, H, -⟩) | (have hne := Nat.ne_of_gt H.mak.lt; refine (next_c (H.al _) (by omega)).mono ?_; clear H; rintro e W2 ⟨rfl, H, hK⟩; have hA := hK.keep (heap_alloc_new W (.cells #[.int .i64 0, .int .i64 2, .int .i64 2, .int .i64 (((rdB lb a : Nat) : Int) % 8)] 3)) hne; have a0 := Mem.cell (v := .int .i64 0) hA 0 rfl; have a1 := Mem.cell (v := .int .i64 2) hA 1 rfl; have a2 := Mem.cell (v := .int .i64 2) hA 2 rfl; have a3 := Mem.cell (v := .int .i64 (((rdB lb a : Nat) : Int) % 8)) hA 3 rfl))
    | (go_at_call 60; refine (number_c H (by omega) (by simp; omega)).mono ?_; clear H; rintro e W ⟨rfl, H⟩)
    | (go_at_call 61; refine (mark_c H (by omega) (by simp; omega)).mono ?_; clear H; rintro e W ⟨rfl, H⟩)
    | (go_at_call 43; refine (local_c H _ (by simp; omega) (by omega) (by omega)).mono ?_; clear H; rintro e W ⟨rfl, H⟩)
    | (go_at_call 22; refine (emit_c H _ _ (by simp; omega) (by first | exact gd0 (by omega) | exact gd1 (by omega) (by omega) (by omega))).mono ?_; clear H; rintro e W ⟨rfl, H⟩))
  go_end0
  exact ⟨rfl, _, _, H, by omega, by simp, by simp⟩
set_option maxRecDepth 100000 in
set_option maxHeartbeats 2000000 in
theorem deed9 (m : Nat) (lv : Value) (lb : List UInt8) (a : Nat) (c : List (Int × Int)) (ab : Int) (w : World) (H : DS m lv lb c w a [] w) (ha : a ≤ 1000) (hc : c.length ≤ 1000) (_ : 0 ≤ ab) (_ : ab ≤ 2) (hk : ((rdB lb (a + 1) : Nat) : Int) % 32 = 9) :
    Calls Tryz.prog 42 #[.pointer (some ⟨m, 0, none⟩), .int .i64 ab] w fun e w' => e = .returned (.tuple #[]) ∧ DeedP m lv lb c w a w' := by
  go_enter Tryz.func42, Tryz.ntmps42
  go_wp2_with (first
    | (go_at_call 23; first | (refine (next_c H (by omega)).mono ?_; clear H; rintro e W ⟨rfl, H, -⟩))
    | (go_at_call 60; refine (number_c H (by omega) (by simp; omega)).mono ?_; clear H; rintro e W ⟨rfl, H⟩)
    | (go_at_call 61; refine (mark_c H (by omega) (by simp; omega)).mono ?_; clear H; rintro e W ⟨rfl, H⟩)
    | (go_at_call 43; refine (local_c H _ (by simp; omega) (by omega) (by omega)).mono ?_; clear H; rintro e W ⟨rfl, H⟩)
    | (go_at_call 22; refine (emit_c H _ _ (by simp; omega) (by first | exact gd0 (by omega) | exact gd1 (by omega) (by omega) (by omega))).mono ?_; clear H; rintro e W ⟨rfl, H⟩))
  go_end0
  exact ⟨rfl, _, _, H, by omega, by simp, by simp⟩
set_option maxRecDepth 100000 in
set_option maxHeartbeats 2000000 in
theorem deed10 (m : Nat) (lv : Value) (lb : List UInt8) (a : Nat) (c : List (Int × Int)) (ab : Int) (w : World) (H : DS m lv lb c w a [] w) (ha : a ≤ 1000) (hc : c.length ≤ 1000) (_ : 0 ≤ ab) (_ : ab ≤ 2) (hk : ((rdB lb (a + 1) : Nat) : Int) % 32 = 10) :
    Calls Tryz.prog 42 #[.pointer (some ⟨m, 0, none⟩), .int .i64 ab] w fun e w' => e = .returned (.tuple #[]) ∧ DeedP m lv lb c w a w' := by
  go_enter Tryz.func42, Tryz.ntmps42
  go_wp2_with (first
    | (go_at_call 23; first | (refine (next_c H (by omega)).mono ?_; clear H; rintro e W ⟨rfl, H, -⟩))
    | (go_at_call 60; refine (number_c H (by omega) (by simp; omega)).mono ?_; clear H; rintro e W ⟨rfl, H⟩)
    | (go_at_call 61; refine (mark_c H (by omega) (by simp; omega)).mono ?_; clear H; rintro e W ⟨rfl, H⟩)
    | (go_at_call 43; refine (local_c H _ (by simp; omega) (by omega) (by omega)).mono ?_; clear H; rintro e W ⟨rfl, H⟩)
    | (go_at_call 22; refine (emit_c H _ _ (by simp; omega) (by first | exact gd0 (by omega) | exact gd1 (by omega) (by omega) (by omega))).mono ?_; clear H; rintro e W ⟨rfl, H⟩))
  go_end0
  exact ⟨rfl, _, _, H, by omega, by simp, by simp⟩
set_option maxRecDepth 100000 in
set_option maxHeartbeats 2000000 in
theorem deed11 (m : Nat) (lv : Value) (lb : List UInt8) (a : Nat) (c : List (Int × Int)) (ab : Int) (w : World) (H : DS m lv lb c w a [] w) (ha : a ≤ 1000) (hc : c.length ≤ 1000) (_ : 0 ≤ ab) (_ : ab ≤ 2) (hk : ((rdB lb (a + 1) : Nat) : Int) % 32 = 11) :
    Calls Tryz.prog 42 #[.pointer (some ⟨m, 0, none⟩), .int .i64 ab] w fun e w' => e = .returned (.tuple #[]) ∧ DeedP m lv lb c w a w' := by
  go_enter Tryz.func42, Tryz.ntmps42
  go_wp2_with (first
    | (go_at_call 23; first | (refine (next_c H (by omega)).mono ?_; clear H; rintro e W ⟨rfl, H, -⟩))
    | (go_at_call 60; refine (number_c H (by omega) (by simp; omega)).mono ?_; clear H; rintro e W ⟨rfl, H⟩)
    | (go_at_call 61; refine (mark_c H (by omega) (by simp; omega)).mono ?_; clear H; rintro e W ⟨rfl, H⟩)
    | (go_at_call 43; refine (local_c H _ (by simp; omega) (by omega) (by omega)).mono ?_; clear H; rintro e W ⟨rfl, H⟩)
    | (go_at_call 22; refine (emit_c H _ _ (by simp; omega) (by first | exact gd0 (by omega) | exact gd1 (by omega) (by omega) (by omega))).mono ?_; clear H; rintro e W ⟨rfl, H⟩))
  go_end0
  exact ⟨rfl, _, _, H, by omega, by simp, by simp⟩
end Go.Proofs.YtiggallcoocdaaaGreatDoor
