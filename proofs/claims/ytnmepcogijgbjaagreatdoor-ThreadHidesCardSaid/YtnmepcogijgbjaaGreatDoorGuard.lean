/- guard.above, cleared, first, Write. -/
import Derived.Deep.RegionHeld3
import Derived.Laws.EntriesVeiled
import Derived.Test.YtnmepcogijgbjaaGreatDoorLat
namespace Go.Proofs.YtnmepcogijgbjaaGreatDoor
open Go.RowKit
set_option maxRecDepth 100000 in
set_option maxHeartbeats 1000000 in
theorem above1_any (a b : Nat) (cS cI kS kI lS lI : ByteArray) (p : Bool) (w : World) (hm : Mem w [(a, .cells #[.string cS, .string cI, .string kS, .string kI] 26), (b, .cells #[.string lS, .string lI] 24)])
    (h : ∀ w, Calls Tryz.prog 56 #[.agg #[.string cS, .string cI], .agg #[.string lS, .string lI]] w fun e w' => e = .returned (.bool p) ∧ Below w.heap.size w w') :
    Calls Tryz.prog 73 #[.pointer (some ⟨a, 0, none⟩), .pointer (some ⟨b, 0, none⟩)] w fun e w' => e = .returned (.bool p) ∧ Below w.heap.size w w' := by
  have c0 := Mem.cell (v := .string cS) hm.1 0 rfl
  have c1 := Mem.cell (v := .string cI) hm.1 1 rfl
  have c2 := Mem.cell (v := .string kS) hm.1 2 rfl
  have c3 := Mem.cell (v := .string kI) hm.1 3 rfl
  have d0 := Mem.cell (v := .string lS) hm.2.1 0 rfl
  have d1 := Mem.cell (v := .string lI) hm.2.1 1 rfl
  clear hm
  go_enter Tryz.func73, Tryz.ntmps73
  have hB0 := Below.refl w.heap.size w
  have M0 := Mem.nil w
  go_wp2_with fail
  refine Calls.named ?_
  intro W1 hW1
  have hB1_ : Below w.heap.size w W1 := by rw [hW1]; exact hB0
  have M1_ := Mem.nil W1
  clear hW1
  refine (h _).mono ?_
  rintro e w1 ⟨rfl, hb1⟩
  have hB1 := below_then hB1_ hb1
  have M1 := M1_.below hb1
  clear M1_ hB1_ hb1
  clear c0 c1 c2 c3 d0 d1
  go_wp2_with fail
  go_ret
  exact ⟨rfl, hB1⟩
set_option maxRecDepth 100000 in
set_option maxHeartbeats 1000000 in
theorem cleared1_any (a b : Nat) (cS cI kS kI lS lI : ByteArray) (p : Bool) (w : World) (hm : Mem w [(a, .cells #[.string cS, .string cI, .string kS, .string kI] 26), (b, .cells #[.string lS, .string lI] 24)])
    (h : ∀ w, Calls Tryz.prog 56 #[.agg #[.string lS, .string lI], .agg #[.string kS, .string kI]] w fun e w' => e = .returned (.bool p) ∧ Below w.heap.size w w') :
    Calls Tryz.prog 74 #[.pointer (some ⟨b, 0, none⟩), .pointer (some ⟨a, 0, none⟩)] w fun e w' => e = .returned (.bool p) ∧ Below w.heap.size w w' := by
  have c0 := Mem.cell (v := .string cS) hm.1 0 rfl
  have c1 := Mem.cell (v := .string cI) hm.1 1 rfl
  have c2 := Mem.cell (v := .string kS) hm.1 2 rfl
  have c3 := Mem.cell (v := .string kI) hm.1 3 rfl
  have d0 := Mem.cell (v := .string lS) hm.2.1 0 rfl
  have d1 := Mem.cell (v := .string lI) hm.2.1 1 rfl
  clear hm
  go_enter Tryz.func74, Tryz.ntmps74
  have hB0 := Below.refl w.heap.size w
  have M0 := Mem.nil w
  go_wp2_with fail
  refine Calls.named ?_
  intro W1 hW1
  have hB1_ : Below w.heap.size w W1 := by rw [hW1]; exact hB0
  have M1_ := Mem.nil W1
  clear hW1
  refine (h _).mono ?_
  rintro e w1 ⟨rfl, hb1⟩
  have hB1 := below_then hB1_ hb1
  have M1 := M1_.below hb1
  clear M1_ hB1_ hb1
  clear c0 c1 c2 c3 d0 d1
  go_wp2_with fail
  go_ret
  exact ⟨rfl, hB1⟩
/-- the closure that asks, and the code -/
abbrev mustV (f : Nat) (p q : Value) (n : Int) : List Value := [.func (.func f) #[] #[p, q], .int .i64 n]
abbrev ptrV (b : Nat) : Value := .pointer (some ⟨b, 0, none⟩)
abbrev aboveV (a b : Nat) : List Value := mustV 73 (ptrV a) (ptrV b) (-3)
abbrev clearedV (a b : Nat) : List Value := mustV 74 (ptrV b) (ptrV a) (-4)
set_option maxRecDepth 100000 in
set_option maxHeartbeats 1000000 in
theorem above_any (cS cI kS kI lS lI : ByteArray) (w : World) :
    Calls Tryz.prog 54 #[.agg #[.string cS, .string cI, .string kS, .string kI], .agg #[.string lS, .string lI]] w fun e w' => ∃ a b, e = .returned (.agg (aboveV a b).toArray) ∧
      Mem w' [(a, .cells #[.string cS, .string cI, .string kS, .string kI] 26), (b, .cells #[.string lS, .string lI] 24)] ∧ w.heap.size ≤ a ∧ w.heap.size ≤ b ∧ Below w.heap.size w w' := by
  go_enter Tryz.func54, Tryz.ntmps54
  have hB0 := Below.refl w.heap.size w
  have M0 := Mem.nil w
  go_upto_region 1 with (fail)
  refine wp_named ?_
  intro w1 hW1
  have hB1 : Below w.heap.size w w1 := by rw [hW1]; exact (below_al (below_al (below_al hB0 _) _) _)
  have M1 := (((M0).new' (w.heap.size) (by rfl) (.cells #[.string cS, .string cI, .string kS, .string kI] 26)).new' (w.heap.size + 1) (by simp) (.cells #[.string lS, .string lI] 24)).new' (w.heap.size + 1 + 1) (by simp) (.cells #[.nilFunc, .int .i64 0] 108)
  rw [← hW1] at M1
  clear hW1
  have c1_0_0 := Mem.cell (v := .nilFunc) M1.1 0 rfl
  have c1_0_1 := Mem.cell (v := .int .i64 0) M1.1 1 rfl
  have z1_0 := Mem.lt M1.1
  have c1_1_0 := Mem.cell (v := .string lS) M1.2.1 0 rfl
  have c1_1_1 := Mem.cell (v := .string lI) M1.2.1 1 rfl
  have z1_1 := Mem.lt M1.2.1
  have c1_2_0 := Mem.cell (v := .string cS) M1.2.2.1 0 rfl
  have c1_2_1 := Mem.cell (v := .string cI) M1.2.2.1 1 rfl
  have c1_2_2 := Mem.cell (v := .string kS) M1.2.2.1 2 rfl
  have c1_2_3 := Mem.cell (v := .string kI) M1.2.2.1 3 rfl
  have z1_2 := Mem.lt M1.2.2.1
  have f0 := fun j => Mem.free M1.1 j
  go_wp2
  have hX := set_block M1.1 (aboveV w.heap.size (w.heap.size + 1)) rfl
  have hY := below_setCells (B := w.heap.size) hB1 (b := w.heap.size + 1 + 1) (by omega) 0 (aboveV w.heap.size (w.heap.size + 1))
  have hO1 := (setCells_other (aboveV w.heap.size (w.heap.size + 1)) 0 w1 w.heap.size (b := w.heap.size + 1 + 1) (by omega)).trans M1.2.2.1
  have hO2 := (setCells_other (aboveV w.heap.size (w.heap.size + 1)) 0 w1 (w.heap.size + 1) (b := w.heap.size + 1 + 1) (by omega)).trans M1.2.1
  obtain ⟨W_e, hW_e⟩ : ∃ W_e, W_e = w1.setCells (w.heap.size + 1 + 1) 0 (aboveV w.heap.size (w.heap.size + 1)) := ⟨_, rfl⟩
  rw [← hW_e] at hX hY hO1 hO2
  refine at_world hW_e ?_
  have k_0 := Mem.cell hX 0 rfl
  have k_1 := Mem.cell hX 1 rfl
  refine bodyPost_ret (v := .agg (aboveV w.heap.size (w.heap.size + 1)).toArray) (by simp [results, Tryz.results54, go_sem, k_0, k_1]) rfl ⟨w.heap.size, w.heap.size + 1, rfl, ⟨hO1, hO2, trivial⟩, Nat.le_refl _, by omega, hY⟩
set_option maxRecDepth 100000 in
set_option maxHeartbeats 1000000 in
theorem cleared_any (cS cI kS kI lS lI : ByteArray) (w : World) :
    Calls Tryz.prog 55 #[.agg #[.string cS, .string cI, .string kS, .string kI], .agg #[.string lS, .string lI]] w fun e w' => ∃ a b, e = .returned (.agg (clearedV a b).toArray) ∧
      Mem w' [(a, .cells #[.string cS, .string cI, .string kS, .string kI] 26), (b, .cells #[.string lS, .string lI] 24)] ∧ w.heap.size ≤ a ∧ w.heap.size ≤ b ∧ Below w.heap.size w w' := by
  go_enter Tryz.func55, Tryz.ntmps55
  have hB0 := Below.refl w.heap.size w
  have M0 := Mem.nil w
  go_upto_region 1 with (fail)
  refine wp_named ?_
  intro w1 hW1
  have hB1 : Below w.heap.size w w1 := by rw [hW1]; exact (below_al (below_al (below_al hB0 _) _) _)
  have M1 := (((M0).new' (w.heap.size) (by rfl) (.cells #[.string cS, .string cI, .string kS, .string kI] 26)).new' (w.heap.size + 1) (by simp) (.cells #[.string lS, .string lI] 24)).new' (w.heap.size + 1 + 1) (by simp) (.cells #[.nilFunc, .int .i64 0] 108)
  rw [← hW1] at M1
  clear hW1
  have c1_0_0 := Mem.cell (v := .nilFunc) M1.1 0 rfl
  have c1_0_1 := Mem.cell (v := .int .i64 0) M1.1 1 rfl
  have z1_0 := Mem.lt M1.1
  have c1_1_0 := Mem.cell (v := .string lS) M1.2.1 0 rfl
  have c1_1_1 := Mem.cell (v := .string lI) M1.2.1 1 rfl
  have z1_1 := Mem.lt M1.2.1
  have c1_2_0 := Mem.cell (v := .string cS) M1.2.2.1 0 rfl
  have c1_2_1 := Mem.cell (v := .string cI) M1.2.2.1 1 rfl
  have c1_2_2 := Mem.cell (v := .string kS) M1.2.2.1 2 rfl
  have c1_2_3 := Mem.cell (v := .string kI) M1.2.2.1 3 rfl
  have z1_2 := Mem.lt M1.2.2.1
  have f0 := fun j => Mem.free M1.1 j
  go_wp2
  have hX := set_block M1.1 (clearedV w.heap.size (w.heap.size + 1)) rfl
  have hY := below_setCells (B := w.heap.size) hB1 (b := w.heap.size + 1 + 1) (by omega) 0 (clearedV w.heap.size (w.heap.size + 1))
  have hO1 := (setCells_other (clearedV w.heap.size (w.heap.size + 1)) 0 w1 w.heap.size (b := w.heap.size + 1 + 1) (by omega)).trans M1.2.2.1
  have hO2 := (setCells_other (clearedV w.heap.size (w.heap.size + 1)) 0 w1 (w.heap.size + 1) (b := w.heap.size + 1 + 1) (by omega)).trans M1.2.1
  obtain ⟨W_e, hW_e⟩ : ∃ W_e, W_e = w1.setCells (w.heap.size + 1 + 1) 0 (clearedV w.heap.size (w.heap.size + 1)) := ⟨_, rfl⟩
  rw [← hW_e] at hX hY hO1 hO2
  refine at_world hW_e ?_
  have k_0 := Mem.cell hX 0 rfl
  have k_1 := Mem.cell hX 1 rfl
  refine bodyPost_ret (v := .agg (clearedV w.heap.size (w.heap.size + 1)).toArray) (by simp [results, Tryz.results55, go_sem, k_0, k_1]) rfl ⟨w.heap.size, w.heap.size + 1, rfl, ⟨hO1, hO2, trivial⟩, Nat.le_refl _, by omega, hY⟩
theorem two_cells {B off : Nat} : (⟨B, off, none⟩ : Addr).add 1 = ⟨B, off + 1, none⟩ := rfl
set_option maxRecDepth 100000 in
set_option maxHeartbeats 2000000 in
theorem first2_any (B a b a' b' : Nat) (p q : Bool) (w : World) (hm : Mem w [(B, .cells (aboveV a b ++ clearedV a' b').toArray 108)])
    (hA : ∀ w', Below w.heap.size w w' → Calls Tryz.prog 73 #[ptrV a, ptrV b] w' fun e w'' => e = .returned (.bool p) ∧ Below w'.heap.size w' w'')
    (hC : ∀ w', Below w.heap.size w w' → Calls Tryz.prog 74 #[ptrV b', ptrV a'] w' fun e w'' => e = .returned (.bool q) ∧ Below w'.heap.size w' w'') :
    Calls Tryz.prog 53 #[.slice (some ⟨B, 0, none⟩) 2 2] w fun e w' => e = .returned (.int .i64 (if p then (if q then 0 else -4) else -3)) ∧ Below w.heap.size w w' := by
  have hin : Mem w [(B, .cells (aboveV a b ++ clearedV a' b').toArray 108)] := hm
  clear hm
  have da0 := Mem.cell (v := .func (.func 73) #[] #[ptrV a, ptrV b]) hin.1 0 rfl
  have da1 := Mem.cell (v := .int .i64 (-3)) hin.1 1 rfl
  have da2 := Mem.cell (v := .func (.func 74) #[] #[ptrV b', ptrV a']) hin.1 2 rfl
  have da3 := Mem.cell (v := .int .i64 (-4)) hin.1 3 rfl
  have HA := Lib.hid hA
  have HC := Lib.hid hC
  clear hA hC
  go_enter Tryz.func53, Tryz.ntmps53
  have hB0 := Below.refl w.heap.size w
  have M0 := Mem.nil w
  go_wp2_with fail
  refine wp_loop_rounds 3 ?_
  rw [rounds_succ]
  go_wp2_with fail
  refine Calls.named ?_
  intro W1 hW1
  have hB1_ : Below w.heap.size w W1 := by rw [hW1]; exact (below_al hB0 _)
  have M1_ := (M0).new' (w.heap.size) (by rfl) (.cells #[.func (.func 73) #[] #[ptrV a, ptrV b], .int .i64 (-3)] 108)
  rw [← hW1] at M1_
  have hS1 : Below w.heap.size w W1 := by rw [hW1]; exact (below_al (Below.refl _ _) _)
  have hin_ := Mem.below hin hS1
  clear hS1 hin
  clear hW1
  have ZZ1_0 := Lib.hid (Mem.lt M1_.1)
  refine (HA.out _ hB1_).mono ?_
  rintro e w1 ⟨rfl, hb1⟩
  have hin := Mem.below hin_ hb1
  clear hin_
  have hB1 := below_then hB1_ hb1
  have M1 := M1_.below hb1
  clear M1_ hB1_ hb1
  have c1_0_0 := Mem.cell (v := .func (.func 73) #[] #[ptrV a, ptrV b]) M1.1 0 rfl
  have c1_0_1 := Mem.cell (v := .int .i64 (-3)) M1.1 1 rfl
  have z1_0 := Mem.lt M1.1
  clear da0 da1 da2 da3
  cases p with
  | false =>
    clear HA HC
    go_wp2_with fail
    go_ret
    exact ⟨rfl, hB1⟩
  | true =>
    have db0 := Mem.cell (v := .func (.func 73) #[] #[ptrV a, ptrV b]) hin.1 0 rfl
    have db1 := Mem.cell (v := .int .i64 (-3)) hin.1 1 rfl
    have db2 := Mem.cell (v := .func (.func 74) #[] #[ptrV b', ptrV a']) hin.1 2 rfl
    have db3 := Mem.cell (v := .int .i64 (-4)) hin.1 3 rfl
    go_wp2_with fail
    rw [rounds_succ]
    go_wp2_with fail
    refine Calls.named ?_
    intro W2 hW2
    have hB2_ : Below w.heap.size w W2 := by rw [hW2]; exact (below_al hB1 _)
    have M2_ := (M1).new' (w1.heap.size) (by rfl) (.cells #[.func (.func 74) #[] #[ptrV b', ptrV a'], .int .i64 (-4)] 108)
    rw [← hW2] at M2_
    have hS2 : Below w1.heap.size w1 W2 := by rw [hW2]; exact (below_al (Below.refl _ _) _)
    have hin_ := Mem.below hin hS2
    clear hS2 hin
    clear hW2
    have ZZ2_0 := Lib.hid (Mem.lt M2_.1)
    have ZZ2_1 := Lib.hid (Mem.lt M2_.2.1)
    clear c1_0_0 c1_0_1 z1_0
    refine (HC.out _ hB2_).mono ?_
    rintro e w2 ⟨rfl, hb2⟩
    have hin := Mem.below hin_ hb2
    clear hin_
    have hB2 := below_then hB2_ hb2
    have M2 := M2_.below hb2
    clear M2_ hB2_ hb2
    have c2_0_0 := Mem.cell (v := .func (.func 74) #[] #[ptrV b', ptrV a']) M2.1 0 rfl
    have c2_0_1 := Mem.cell (v := .int .i64 (-4)) M2.1 1 rfl
    have z2_0 := Mem.lt M2.1
    have c2_1_0 := Mem.cell (v := .func (.func 73) #[] #[ptrV a, ptrV b]) M2.2.1 0 rfl
    have c2_1_1 := Mem.cell (v := .int .i64 (-3)) M2.2.1 1 rfl
    have z2_1 := Mem.lt M2.2.1
    clear db0 db1 db2 db3
    cases q with
    | false =>
      clear HA HC
      go_wp2_with fail
      go_ret
      exact ⟨rfl, hB2⟩
    | true =>
      clear HA HC
      go_wp2_with fail
      rw [rounds_succ]
      go_wp2_with fail
      go_ret
      exact ⟨rfl, hB2⟩
set_option maxRecDepth 100000 in
set_option maxHeartbeats 2000000 in
theorem write_gen (cS cI kS kI lS lI : ByteArray) (p q : Bool)
    (h1 : ∀ w, Calls Tryz.prog 56 #[.agg #[.string cS, .string cI], .agg #[.string lS, .string lI]] w fun e w' => e = .returned (.bool p) ∧ Below w.heap.size w w')
    (h2 : ∀ w, Calls Tryz.prog 56 #[.agg #[.string lS, .string lI], .agg #[.string kS, .string kI]] w fun e w' => e = .returned (.bool q) ∧ Below w.heap.size w w') (w : World) :
    Calls Tryz.prog 27 #[.agg #[.string cS, .string cI, .string kS, .string kI], .agg #[.string lS, .string lI]] w fun e w' => e = .returned (.int .i64 (if p then (if q then 0 else -4) else -3)) ∧ Below w.heap.size w w' := by
  obtain ⟨R, hR⟩ : ∃ R : Int, (if p then (if q then 0 else -4) else -3) = R := ⟨_, rfl⟩
  rw [hR]
  have HR := Lib.hid hR
  clear hR
  go_enter Tryz.func27, Tryz.ntmps27
  have hB0 := Below.refl w.heap.size w
  have M0 := Mem.nil w
  go_upto_region 1 with (fail)
  refine wp_named ?_
  intro w1 hW1
  have hB1 : Below w.heap.size w w1 := by rw [hW1]; exact (below_al (below_al hB0 _) _)
  have M1 := ((M0).new' (w.heap.size) (by rfl) (.cells #[.string cS, .string cI, .string kS, .string kI] 26)).new' (w.heap.size + 1) (by simp) (.cells #[.string lS, .string lI] 24)
  rw [← hW1] at M1
  clear hW1
  have c1_0_0 := Mem.cell (v := .string lS) M1.1 0 rfl
  have c1_0_1 := Mem.cell (v := .string lI) M1.1 1 rfl
  have z1_0 := Mem.lt M1.1
  have c1_1_0 := Mem.cell (v := .string cS) M1.2.1 0 rfl
  have c1_1_1 := Mem.cell (v := .string cI) M1.2.1 1 rfl
  have c1_1_2 := Mem.cell (v := .string kS) M1.2.1 2 rfl
  have c1_1_3 := Mem.cell (v := .string kI) M1.2.1 3 rfl
  have z1_1 := Mem.lt M1.2.1
  go_region_held3 (fun w' => w'.cell? ⟨w.heap.size, 0, none⟩ = some (.string cS) ∧ w'.cell? ⟨w.heap.size, 1, none⟩ = some (.string cI) ∧ w'.cell? ⟨w.heap.size, 2, none⟩ = some (.string kS) ∧ w'.cell? ⟨w.heap.size, 3, none⟩ = some (.string kI) ∧ w'.cell? ⟨w.heap.size + 1, 0, none⟩ = some (.string lS) ∧ w'.cell? ⟨w.heap.size + 1, 1, none⟩ = some (.string lI))
    (go_keep)
    (first
      | (go_at_call 54; (with_reducible refine (above_any cS cI kS kI lS lI _).mono ?_); rintro e wn ⟨a, b, rfl, hMn, han, hbn0, hbn⟩; have hcn := fun o => hbn.cell (p := ⟨w.heap.size, o, none⟩) (by first | omega | (simp; omega)); have hdn := fun o => hbn.cell (p := ⟨w.heap.size + 1, o, none⟩) (by first | omega | (simp; omega)); have hzn : w1.heap.size ≤ wn.heap.size := (by have := hbn.size; first | exact this | omega | (simp at this; omega)))
      | (go_at_call 55; (with_reducible refine (cleared_any cS cI kS kI lS lI _).mono ?_); rintro e wm ⟨a', b', rfl, hMm, ham, hbm0, hbm⟩; have hcm := fun o => hbm.cell (p := ⟨w.heap.size, o, none⟩) (by first | omega | (simp; omega)); have hdm := fun o => hbm.cell (p := ⟨w.heap.size + 1, o, none⟩) (by first | omega | (simp; omega)); have hzm : w1.heap.size ≤ wm.heap.size := (by have := hbm.size; first | exact this | omega | (simp at this; omega)))
      | (go_at_call 53; (with_reducible refine (first2_any wm.heap.size a b a' b' p q _ ?hmm (fun w' hb => above1_any a b cS cI kS kI lS lI p w' (hMn.below (below_then (below_al hbm _) hb)) h1) (fun w' hb => cleared1_any a' b' cS cI kS kI lS lI q w' (hMm.below (below_then (below_al (Below.refl _ _) _) hb)) h2)).mono ?_); (case hmm => exact ⟨heap_alloc_new _ _, trivial⟩); rw [HR.out]; rintro e wf ⟨rfl, hbf⟩; have hcf := fun o => hbf.cell (p := ⟨w.heap.size, o, none⟩) (by first | omega | (simp; omega)); have hdf := fun o => hbf.cell (p := ⟨w.heap.size + 1, o, none⟩) (by first | omega | (simp; omega))))
  all_goals
    have HB := Lib.hid (below_then (below_dr hB1) (below_then (below_then hbn hbm) (below_then (below_al (Below.refl _ _) _) hbf)))
    clear hcn hdn hcm hdm hcf hdf hzn hzm hbn hbm hbf hMn hMm han hbn0 ham hbm0
    go_wp2_with fail
    go_ret
    exact ⟨rfl, HB.out⟩
end Go.Proofs.YtnmepcogijgbjaaGreatDoor
