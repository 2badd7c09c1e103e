/- num.Do and the reference's Do: both come to doV, doOk. -/
import Derived.Test.YtmaambggjdjodaaDoorProg
import Derived.Test.YtmaambggjdjodaaDoorLib
import Derived.Test.YtmaambggjdjodaaDoorNumSpec
namespace Go.Proofs.YtmaambggjdjodaaDoor
open Go.RowKit
/-- the entries of num's map of operations -/
def opEs : Array MapEntry := #[⟨.int .i64 7, .func (.func 28) #[] #[], 0⟩,
  ⟨.int .i64 8, .func (.func 29) #[] #[], 1⟩,
  ⟨.int .i64 9, .func (.func 30) #[] #[], 2⟩,
  ⟨.int .i64 10, .func (.func 31) #[] #[], 3⟩,
  ⟨.int .i64 11, .func (.func 32) #[] #[], 4⟩,
  ⟨.int .i64 12, .func (.func 33) #[] #[], 5⟩,
  ⟨.int .i64 13, .func (.func 35) #[] #[], 6⟩]
theorem operations_any (w : World) : Calls Tryd.prog 22 #[] w fun e w' => e = .returned (.map (some w.heap.size)) ∧ w.alloc (.map opEs 7) = w' := by
  have hmm := @run_makeMap Tryd.prog
  have h0 : (Instr.mapUpdate 40 (.map (some w.heap.size)) (.int .i64 7) (.func (.func 28) #[] #[])).run Tryd.prog (w.alloc (.map #[] 0)) = .ok () (w.alloc (.map #[⟨.int .i64 7, .func (.func 28) #[] #[], 0⟩] 1)) :=
    run_mapUpdate_push 40 3 38 Tryd.underlying40 Tryd.underlying3 w _ _ _ _ rfl
  have h1 : (Instr.mapUpdate 40 (.map (some w.heap.size)) (.int .i64 8) (.func (.func 29) #[] #[])).run Tryd.prog (w.alloc (.map #[⟨.int .i64 7, .func (.func 28) #[] #[], 0⟩] 1)) = .ok () (w.alloc (.map #[⟨.int .i64 7, .func (.func 28) #[] #[], 0⟩, ⟨.int .i64 8, .func (.func 29) #[] #[], 1⟩] 2)) :=
    run_mapUpdate_push 40 3 38 Tryd.underlying40 Tryd.underlying3 w _ _ _ _ rfl
  have h2 : (Instr.mapUpdate 40 (.map (some w.heap.size)) (.int .i64 9) (.func (.func 30) #[] #[])).run Tryd.prog (w.alloc (.map #[⟨.int .i64 7, .func (.func 28) #[] #[], 0⟩, ⟨.int .i64 8, .func (.func 29) #[] #[], 1⟩] 2)) = .ok () (w.alloc (.map #[⟨.int .i64 7, .func (.func 28) #[] #[], 0⟩, ⟨.int .i64 8, .func (.func 29) #[] #[], 1⟩, ⟨.int .i64 9, .func (.func 30) #[] #[], 2⟩] 3)) :=
    run_mapUpdate_push 40 3 38 Tryd.underlying40 Tryd.underlying3 w _ _ _ _ rfl
  have h3 : (Instr.mapUpdate 40 (.map (some w.heap.size)) (.int .i64 10) (.func (.func 31) #[] #[])).run Tryd.prog (w.alloc (.map #[⟨.int .i64 7, .func (.func 28) #[] #[], 0⟩, ⟨.int .i64 8, .func (.func 29) #[] #[], 1⟩, ⟨.int .i64 9, .func (.func 30) #[] #[], 2⟩] 3)) = .ok () (w.alloc (.map #[⟨.int .i64 7, .func (.func 28) #[] #[], 0⟩, ⟨.int .i64 8, .func (.func 29) #[] #[], 1⟩, ⟨.int .i64 9, .func (.func 30) #[] #[], 2⟩, ⟨.int .i64 10, .func (.func 31) #[] #[], 3⟩] 4)) :=
    run_mapUpdate_push 40 3 38 Tryd.underlying40 Tryd.underlying3 w _ _ _ _ rfl
  have h4 : (Instr.mapUpdate 40 (.map (some w.heap.size)) (.int .i64 11) (.func (.func 32) #[] #[])).run Tryd.prog (w.alloc (.map #[⟨.int .i64 7, .func (.func 28) #[] #[], 0⟩, ⟨.int .i64 8, .func (.func 29) #[] #[], 1⟩, ⟨.int .i64 9, .func (.func 30) #[] #[], 2⟩, ⟨.int .i64 10, .func (.func 31) #[] #[], 3⟩] 4)) = .ok () (w.alloc (.map #[⟨.int .i64 7, .func (.func 28) #[] #[], 0⟩, ⟨.int .i64 8, .func (.func 29) #[] #[], 1⟩, ⟨.int .i64 9, .func (.func 30) #[] #[], 2⟩, ⟨.int .i64 10, .func (.func 31) #[] #[], 3⟩, ⟨.int .i64 11, .func (.func 32) #[] #[], 4⟩] 5)) :=
    run_mapUpdate_push 40 3 38 Tryd.underlying40 Tryd.underlying3 w _ _ _ _ rfl
  have h5 : (Instr.mapUpdate 40 (.map (some w.heap.size)) (.int .i64 12) (.func (.func 33) #[] #[])).run Tryd.prog (w.alloc (.map #[⟨.int .i64 7, .func (.func 28) #[] #[], 0⟩, ⟨.int .i64 8, .func (.func 29) #[] #[], 1⟩, ⟨.int .i64 9, .func (.func 30) #[] #[], 2⟩, ⟨.int .i64 10, .func (.func 31) #[] #[], 3⟩, ⟨.int .i64 11, .func (.func 32) #[] #[], 4⟩] 5)) = .ok () (w.alloc (.map #[⟨.int .i64 7, .func (.func 28) #[] #[], 0⟩, ⟨.int .i64 8, .func (.func 29) #[] #[], 1⟩, ⟨.int .i64 9, .func (.func 30) #[] #[], 2⟩, ⟨.int .i64 10, .func (.func 31) #[] #[], 3⟩, ⟨.int .i64 11, .func (.func 32) #[] #[], 4⟩, ⟨.int .i64 12, .func (.func 33) #[] #[], 5⟩] 6)) :=
    run_mapUpdate_push 40 3 38 Tryd.underlying40 Tryd.underlying3 w _ _ _ _ rfl
  have h6 : (Instr.mapUpdate 40 (.map (some w.heap.size)) (.int .i64 13) (.func (.func 35) #[] #[])).run Tryd.prog (w.alloc (.map #[⟨.int .i64 7, .func (.func 28) #[] #[], 0⟩, ⟨.int .i64 8, .func (.func 29) #[] #[], 1⟩, ⟨.int .i64 9, .func (.func 30) #[] #[], 2⟩, ⟨.int .i64 10, .func (.func 31) #[] #[], 3⟩, ⟨.int .i64 11, .func (.func 32) #[] #[], 4⟩, ⟨.int .i64 12, .func (.func 33) #[] #[], 5⟩] 6)) = .ok () (w.alloc (.map #[⟨.int .i64 7, .func (.func 28) #[] #[], 0⟩, ⟨.int .i64 8, .func (.func 29) #[] #[], 1⟩, ⟨.int .i64 9, .func (.func 30) #[] #[], 2⟩, ⟨.int .i64 10, .func (.func 31) #[] #[], 3⟩, ⟨.int .i64 11, .func (.func 32) #[] #[], 4⟩, ⟨.int .i64 12, .func (.func 33) #[] #[], 5⟩, ⟨.int .i64 13, .func (.func 35) #[] #[], 6⟩] 7)) :=
    run_mapUpdate_push 40 3 38 Tryd.underlying40 Tryd.underlying3 w _ _ _ _ rfl
  go_enter Tryd.func22, Tryd.ntmps22
  go_wp2
  go_ret
  exact ⟨rfl, rfl⟩
theorem zero_op (w : World) : (zeroValue 38).run Tryd.prog w = .ok .nilFunc w := by kernel_rfl
theorem truth_any (b : Bool) (w : World) : Calls Tryd.prog 34 #[.bool b] w fun e w' => e = .returned (.int .i64 (if b then 1 else 0)) ∧ w = w' := by
  cases b
  · go_enter Tryd.func34, Tryd.ntmps34
    go_wp2
    go_ret
    exact ⟨rfl, rfl⟩
  · go_enter Tryd.func34, Tryd.ntmps34
    go_wp2
    go_ret
    exact ⟨rfl, rfl⟩
theorem rtruth_any (b : Bool) (w : World) : Calls Tryd.prog 23 #[.bool b] w fun e w' => e = .returned (.int .i64 (if b then 1 else 0)) ∧ w = w' := by
  cases b
  · go_enter Tryd.func23, Tryd.ntmps23
    go_wp2
    go_ret
    exact ⟨rfl, rfl⟩
  · go_enter Tryd.func23, Tryd.ntmps23
    go_wp2
    go_ret
    exact ⟨rfl, rfl⟩
theorem opadd_any (a b : Int) (w : World) : Calls Tryd.prog 28 #[.int .i64 a, .int .i64 b] w fun e w' => e = .returned (.tuple #[.int .i64 (doV 7 a b), .bool (doOk 7 b)]) ∧ w = w' := by
  go_enter Tryd.func28, Tryd.ntmps28
  go_wp2
  go_ret2
  exact ⟨rfl, rfl⟩
theorem opsub_any (a b : Int) (w : World) : Calls Tryd.prog 29 #[.int .i64 a, .int .i64 b] w fun e w' => e = .returned (.tuple #[.int .i64 (doV 8 a b), .bool (doOk 8 b)]) ∧ w = w' := by
  go_enter Tryd.func29, Tryd.ntmps29
  go_wp2
  go_ret2
  exact ⟨rfl, rfl⟩
theorem opmul_any (a b : Int) (w : World) : Calls Tryd.prog 30 #[.int .i64 a, .int .i64 b] w fun e w' => e = .returned (.tuple #[.int .i64 (doV 9 a b), .bool (doOk 9 b)]) ∧ w = w' := by
  go_enter Tryd.func30, Tryd.ntmps30
  go_wp2
  go_ret2
  exact ⟨rfl, rfl⟩
theorem opdiv_any (a b : Int) (w : World) : Calls Tryd.prog 31 #[.int .i64 a, .int .i64 b] w fun e w' => e = .returned (.tuple #[.int .i64 (doV 10 a b), .bool (doOk 10 b)]) ∧ w = w' := by
  by_cases h : b = 0
  · subst h
    have hv := doV_div_t a
    have hv' := Lib.hid hv
    clear hv
    go_enter Tryd.func31, Tryd.ntmps31
    go_wp2
    go_ret2
    exact ⟨by rw [hv'.out]; rfl, rfl⟩
  · have hb : (b == 0) = false := by simp; exact h
    have hv := doV_div_f a b h
    have hv' := Lib.hid hv
    clear hv
    go_enter Tryd.func31, Tryd.ntmps31
    go_wp2
    go_ret2
    exact ⟨by rw [hv'.out]; rfl, rfl⟩
theorem oprem_any (a b : Int) (w : World) : Calls Tryd.prog 32 #[.int .i64 a, .int .i64 b] w fun e w' => e = .returned (.tuple #[.int .i64 (doV 11 a b), .bool (doOk 11 b)]) ∧ w = w' := by
  by_cases h : b = 0
  · subst h
    have hv := doV_rem_t a
    have hv' := Lib.hid hv
    clear hv
    go_enter Tryd.func32, Tryd.ntmps32
    go_wp2
    go_ret2
    exact ⟨by rw [hv'.out]; rfl, rfl⟩
  · have hb : (b == 0) = false := by simp; exact h
    have hv := doV_rem_f a b h
    have hv' := Lib.hid hv
    clear hv
    go_enter Tryd.func32, Tryd.ntmps32
    go_wp2
    go_ret2
    exact ⟨by rw [hv'.out]; rfl, rfl⟩
theorem opeq_any (a b : Int) (w : World) : Calls Tryd.prog 33 #[.int .i64 a, .int .i64 b] w fun e w' => e = .returned (.tuple #[.int .i64 (doV 12 a b), .bool (doOk 12 b)]) ∧ w = w' := by
  by_cases h : a = b
  · subst h
    have hv := doV_eq_t a
    have hv' := Lib.hid hv
    clear hv
    go_enter Tryd.func33, Tryd.ntmps33
    go_wp2
    go_ret2
    exact ⟨by rw [hv'.out]; rfl, rfl⟩
  · have hb : (a == b) = false := by simp; exact h
    have hv := doV_eq_f a b h
    have hv' := Lib.hid hv
    clear hv
    go_enter Tryd.func33, Tryd.ntmps33
    go_wp2
    go_ret2
    exact ⟨by rw [hv'.out]; rfl, rfl⟩
theorem oplt_any (a b : Int) (w : World) : Calls Tryd.prog 35 #[.int .i64 a, .int .i64 b] w fun e w' => e = .returned (.tuple #[.int .i64 (doV 13 a b), .bool (doOk 13 b)]) ∧ w = w' := by
  by_cases h : a < b
  · skip
    have hv := doV_lt_t a b h
    have hv' := Lib.hid hv
    clear hv
    go_enter Tryd.func35, Tryd.ntmps35
    go_wp2
    go_ret2
    exact ⟨by rw [hv'.out]; rfl, rfl⟩
  · have hv := doV_lt_f a b h
    have hv' := Lib.hid hv
    clear hv
    go_enter Tryd.func35, Tryd.ntmps35
    go_wp2
    go_ret2
    exact ⟨by rw [hv'.out]; rfl, rfl⟩
theorem do_add (a b : Int) (w : World) : Calls Tryd.prog 11 #[.int .i64 7, .int .i64 a, .int .i64 b] w fun e w' => e = .returned (.tuple #[.int .i64 (doV 7 a b), .bool (doOk 7 b)]) ∧ w.alloc (.map opEs 7) = w' := by
  have hlk := run_lookup_ok 40 3 38 Tryd.underlying40 Tryd.underlying3 (w.alloc (.map opEs 7)) w.heap.size opEs 7 7 0 (.func (.func 28) #[] #[]) (by show (w.heap.push _)[w.heap.size]? = _; simp) rfl
  go_enter Tryd.func11, Tryd.ntmps11
  go_wp2_with (first
    | (go_at_call 22; refine (operations_any _).mono ?_; rintro e w' ⟨rfl, rfl⟩)
    | (go_at_call 28; refine (opadd_any _ _ _).mono ?_; rintro e w' ⟨rfl, rfl⟩))
  go_ret2
  exact ⟨rfl, rfl⟩
theorem do_sub (a b : Int) (w : World) : Calls Tryd.prog 11 #[.int .i64 8, .int .i64 a, .int .i64 b] w fun e w' => e = .returned (.tuple #[.int .i64 (doV 8 a b), .bool (doOk 8 b)]) ∧ w.alloc (.map opEs 7) = w' := by
  have hlk := run_lookup_ok 40 3 38 Tryd.underlying40 Tryd.underlying3 (w.alloc (.map opEs 7)) w.heap.size opEs 7 8 1 (.func (.func 29) #[] #[]) (by show (w.heap.push _)[w.heap.size]? = _; simp) rfl
  go_enter Tryd.func11, Tryd.ntmps11
  go_wp2_with (first
    | (go_at_call 22; refine (operations_any _).mono ?_; rintro e w' ⟨rfl, rfl⟩)
    | (go_at_call 29; refine (opsub_any _ _ _).mono ?_; rintro e w' ⟨rfl, rfl⟩))
  go_ret2
  exact ⟨rfl, rfl⟩
theorem do_mul (a b : Int) (w : World) : Calls Tryd.prog 11 #[.int .i64 9, .int .i64 a, .int .i64 b] w fun e w' => e = .returned (.tuple #[.int .i64 (doV 9 a b), .bool (doOk 9 b)]) ∧ w.alloc (.map opEs 7) = w' := by
  have hlk := run_lookup_ok 40 3 38 Tryd.underlying40 Tryd.underlying3 (w.alloc (.map opEs 7)) w.heap.size opEs 7 9 2 (.func (.func 30) #[] #[]) (by show (w.heap.push _)[w.heap.size]? = _; simp) rfl
  go_enter Tryd.func11, Tryd.ntmps11
  go_wp2_with (first
    | (go_at_call 22; refine (operations_any _).mono ?_; rintro e w' ⟨rfl, rfl⟩)
    | (go_at_call 30; refine (opmul_any _ _ _).mono ?_; rintro e w' ⟨rfl, rfl⟩))
  go_ret2
  exact ⟨rfl, rfl⟩
theorem do_div (a b : Int) (w : World) : Calls Tryd.prog 11 #[.int .i64 10, .int .i64 a, .int .i64 b] w fun e w' => e = .returned (.tuple #[.int .i64 (doV 10 a b), .bool (doOk 10 b)]) ∧ w.alloc (.map opEs 7) = w' := by
  have hlk := run_lookup_ok 40 3 38 Tryd.underlying40 Tryd.underlying3 (w.alloc (.map opEs 7)) w.heap.size opEs 7 10 3 (.func (.func 31) #[] #[]) (by show (w.heap.push _)[w.heap.size]? = _; simp) rfl
  go_enter Tryd.func11, Tryd.ntmps11
  go_wp2_with (first
    | (go_at_call 22; refine (operations_any _).mono ?_; rintro e w' ⟨rfl, rfl⟩)
    | (go_at_call 31; refine (opdiv_any _ _ _).mono ?_; rintro e w' ⟨rfl, rfl⟩))
  go_ret2
  exact ⟨rfl, rfl⟩
theorem do_rem (a b : Int) (w : World) : Calls Tryd.prog 11 #[.int .i64 11, .int .i64 a, .int .i64 b] w fun e w' => e = .returned (.tuple #[.int .i64 (doV 11 a b), .bool (doOk 11 b)]) ∧ w.alloc (.map opEs 7) = w' := by
  have hlk := run_lookup_ok 40 3 38 Tryd.underlying40 Tryd.underlying3 (w.alloc (.map opEs 7)) w.heap.size opEs 7 11 4 (.func (.func 32) #[] #[]) (by show (w.heap.push _)[w.heap.size]? = _; simp) rfl
  go_enter Tryd.func11, Tryd.ntmps11
  go_wp2_with (first
    | (go_at_call 22; refine (operations_any _).mono ?_; rintro e w' ⟨rfl, rfl⟩)
    | (go_at_call 32; refine (oprem_any _ _ _).mono ?_; rintro e w' ⟨rfl, rfl⟩))
  go_ret2
  exact ⟨rfl, rfl⟩
theorem do_eq (a b : Int) (w : World) : Calls Tryd.prog 11 #[.int .i64 12, .int .i64 a, .int .i64 b] w fun e w' => e = .returned (.tuple #[.int .i64 (doV 12 a b), .bool (doOk 12 b)]) ∧ w.alloc (.map opEs 7) = w' := by
  have hlk := run_lookup_ok 40 3 38 Tryd.underlying40 Tryd.underlying3 (w.alloc (.map opEs 7)) w.heap.size opEs 7 12 5 (.func (.func 33) #[] #[]) (by show (w.heap.push _)[w.heap.size]? = _; simp) rfl
  go_enter Tryd.func11, Tryd.ntmps11
  go_wp2_with (first
    | (go_at_call 22; refine (operations_any _).mono ?_; rintro e w' ⟨rfl, rfl⟩)
    | (go_at_call 33; refine (opeq_any _ _ _).mono ?_; rintro e w' ⟨rfl, rfl⟩))
  go_ret2
  exact ⟨rfl, rfl⟩
theorem do_lt (a b : Int) (w : World) : Calls Tryd.prog 11 #[.int .i64 13, .int .i64 a, .int .i64 b] w fun e w' => e = .returned (.tuple #[.int .i64 (doV 13 a b), .bool (doOk 13 b)]) ∧ w.alloc (.map opEs 7) = w' := by
  have hlk := run_lookup_ok 40 3 38 Tryd.underlying40 Tryd.underlying3 (w.alloc (.map opEs 7)) w.heap.size opEs 7 13 6 (.func (.func 35) #[] #[]) (by show (w.heap.push _)[w.heap.size]? = _; simp) rfl
  go_enter Tryd.func11, Tryd.ntmps11
  go_wp2_with (first
    | (go_at_call 22; refine (operations_any _).mono ?_; rintro e w' ⟨rfl, rfl⟩)
    | (go_at_call 35; refine (oplt_any _ _ _).mono ?_; rintro e w' ⟨rfl, rfl⟩))
  go_ret2
  exact ⟨rfl, rfl⟩
theorem opEs_none (op : Int) (h : op < 7 ∨ 13 < op) : Instr.findNow (.int .i64) (.int .i64 op) opEs.toList 0 = some none := by
  have h7 : (op == 7) = false := by simp; omega
  have h8 : (op == 8) = false := by simp; omega
  have h9 : (op == 9) = false := by simp; omega
  have h10 : (op == 10) = false := by simp; omega
  have h11 : (op == 11) = false := by simp; omega
  have h12 : (op == 12) = false := by simp; omega
  have h13 : (op == 13) = false := by simp; omega
  simp [opEs, Instr.findNow, Instr.sameNow, h7, h8, h9, h10, h11, h12, h13]
theorem do_other (op a b : Int) (w : World) (h : op < 7 ∨ 13 < op) : Calls Tryd.prog 11 #[.int .i64 op, .int .i64 a, .int .i64 b] w fun e w' => e = .returned (.tuple #[.int .i64 (doV op a b), .bool (doOk op b)]) ∧ w.alloc (.map opEs 7) = w' := by
  have hlk := run_lookup_no 40 3 38 Tryd.underlying40 Tryd.underlying3 (w.alloc (.map opEs 7)) w.heap.size opEs 7 op .nilFunc (zero_op _) (by show (w.heap.push _)[w.heap.size]? = _; simp) (opEs_none op h)
  have hv := Lib.hid (doV_other op a b h)
  clear h
  go_enter Tryd.func11, Tryd.ntmps11
  go_wp2_with (go_at_call 22; refine (operations_any _).mono ?_; rintro e w' ⟨rfl, rfl⟩)
  go_ret2
  exact ⟨by rw [hv.out.1, hv.out.2]; rfl, rfl⟩
/-- num.Do, at every operation -/
theorem do_any (op a b : Int) (w : World) : Calls Tryd.prog 11 #[.int .i64 op, .int .i64 a, .int .i64 b] w fun e w' => e = .returned (.tuple #[.int .i64 (doV op a b), .bool (doOk op b)]) ∧ w.alloc (.map opEs 7) = w' := by
  by_cases h : op < 7 ∨ 13 < op
  · exact do_other op a b w h
  · have : op = 7 ∨ op = 8 ∨ op = 9 ∨ op = 10 ∨ op = 11 ∨ op = 12 ∨ op = 13 := by omega
    rcases this with rfl | rfl | rfl | rfl | rfl | rfl | rfl
    · exact do_add a b w
    · exact do_sub a b w
    · exact do_mul a b w
    · exact do_div a b w
    · exact do_rem a b w
    · exact do_eq a b w
    · exact do_lt a b w
end Go.Proofs.YtmaambggjdjodaaDoor
