/- The chapter's examples. -/
import Derived.Test.YtnmepcogijgbjaaGreatDoorZH
import Derived.Test.YtnmepcogijgbjaaGreatDoorExR
namespace Go.Proofs.YtnmepcogijgbjaaGreatDoor
open Go.RowKit
theorem hid_laid {w w' : World} (h : Hid (Laid w)) (hb : Below w.heap.size w w') : Hid (Laid w') := Lib.hid (h.out.below hb)
theorem lex_of {md : Region.Mode} {X Y : Array Oper} (h : X = Y) (hy : Region.lexB md Y = true) : Region.lexB md X = true := by rw [h]; exact hy
theorem quiet_load_mid {P : Program} {C : World → Prop} {K : Act → Prop} {op : Oper} {a : Act} (ty : TypeId) (x : Operand) (ho : op.op = .load ty x)
    (b o : Nat) (hx : a.eval x = .pointer (some ⟨b, o, none⟩)) (cs : List Value) (v : Value) (hv : v = .agg cs.toArray) (d : TypeDesc) (hS : ∀ w, C w → w.rangeAt b o cs)
    (hu : P.underlying ty = some d) (hd : d.isRow = true) (hi : (P.info? ty).map (·.size) = some cs.length) (h : K (a.put op.dst v)) : op.quiet P a C K := by
  refine ⟨v, fun w hw => ?_, h⟩
  unfold Oper.quietAt execOp
  simp only [ho, hx, Instr.loadAt, Instr.sureAddr, Sem.run_bind, Sem.run_pure, Result.andThen_ok, run_loadVar_mid w b o ty cs d (hS w hw) hu hd hi]
  exact ⟨rfl, hv.symm⟩
theorem raw_cell {W : World} {b m : Nat} {cur : Array Value} {T : TypeId} {xs : List Value} (h : W.heap[b]? = some (.cells cur T)) (ht : cur.toList.take m = xs) {j : Nat} {v : Value} (hj : xs[j]? = some v) : W.cell? ⟨b, j, none⟩ = some v := by
  rw [← ht, List.getElem?_take] at hj
  split at hj
  · simp only [World.cell?, h]
    simpa using hj
  · cases hj
set_option maxRecDepth 100000 in
set_option maxHeartbeats 8000000 in
theorem ex_any (w : World) (hw : Laid w) :
    Calls Tryz.prog 6 #[] w fun e w' => e = .returned (.bool true) ∧ Below w.heap.size w w' := by
  go_enter Tryz.func6, Tryz.ntmps6
  have hB0 := Below.refl w.heap.size w
  have M0 := Mem.nil w
  have hw0 := hw
  go_wp2_with fail
  refine Calls.named ?_
  intro W1 hW1
  have hB1_ : Below w.heap.size w W1 := by rw [hW1]; exact (below_al hB0 _)
  have hw1_ : Laid W1 := by rw [hW1]; exact (hw.alloc _)
  have M1_ := (M0).new' (w.heap.size) (by rfl) (.cells #[.string ⟨#[1]⟩, .string ⟨#[]⟩] 24)
  rw [← hW1] at M1_
  clear hW1
  have ZZ1_0 := Lib.hid (Mem.lt M1_.1)
  refine (enterC_any none none none 0 0 0 0 0 0 [] (by simp) (by omega) (by unfold maxLen; omega) (by omega) (fun _ => rfl) (by omega) 0 0 (by omega) none 0 0 [] (fun _ => ⟨rfl, rfl⟩) (by simp) (by simp) (by omega) 1 _ (rows_nil _ _) (rows_nil _ _)).mono ?_
  rintro e w1 ⟨fo, fc, va, vc, rfl, hown, hb1⟩
  have hB1 := below_then hB1_ hb1
  have hw1 := hw1_.below hb1
  have M1 := M1_.below hb1
  clear M1_ hB1_ hb1 hw1_
  have c1_0_0 := Mem.cell (v := .string ⟨#[1]⟩) M1.1 0 rfl
  have c1_0_1 := Mem.cell (v := .string ⟨#[]⟩) M1.1 1 rfl
  have z1_0 := Mem.lt M1.1
  obtain ⟨gf, cf, rfl, hgf, hgc, hfc, hfc2, hft⟩ := own_box hown
  have HFT := Lib.hid hft
  clear hown hft
  have yaf : w.heap.size < gf := by have := ZZ1_0.out; omega
  replace M1 : Mem w1 [(w.heap.size, .cells #[.string ⟨#[1]⟩, .string ⟨#[]⟩] 24), (gf, .cells cf 104)] := ⟨M1.1, hgc, trivial⟩
  have oo1_0 : w.heap.size < w1.heap.size := Mem.lt M1.1
  have oo1_1 : gf < w1.heap.size := Mem.lt M1.2.1
  go_wp2_with fail
  refine Calls.named ?_
  intro W2 hW2
  have hB2_ : Below w.heap.size w W2 := by rw [hW2]; exact (below_al hB1 _)
  have hw2_ : Laid W2 := by rw [hW2]; exact (hw1.alloc _)
  have M2_ := (M1).new' (w1.heap.size) (by rfl) (.cells #[.slice (ptA gf) 1 fc, .slice none 0 0, .slice none 0 0] 36)
  rw [← hW2] at M2_
  clear hW2
  have ZZ2_0 := Lib.hid (Mem.lt M2_.1)
  have ZZ2_1 := Lib.hid (Mem.lt M2_.2.1)
  have ZZ2_2 := Lib.hid (Mem.lt M2_.2.2.1)
  clear c1_0_0 c1_0_1 z1_0
  refine (new_any ⟨#[48]⟩ ⟨#[]⟩ ⟨#[]⟩ ⟨#[1]⟩ ⟨#[]⟩ ⟨ptA gf, 1, fc⟩ ⟨none, 0, 0⟩ ⟨none, 0, 0⟩ 5 _).mono ?_
  rintro e w2 ⟨rfl, hb2⟩
  have hB2 := below_then hB2_ hb2
  have hw2 := hw2_.below hb2
  have M2 := M2_.below hb2
  clear M2_ hB2_ hb2 hw2_
  have c2_0_0 := Mem.cell (v := .slice (ptA gf) 1 fc) M2.1 0 rfl
  have c2_0_1 := Mem.cell (v := .slice none 0 0) M2.1 1 rfl
  have c2_0_2 := Mem.cell (v := .slice none 0 0) M2.1 2 rfl
  have z2_0 := Mem.lt M2.1
  have c2_1_0 := Mem.cell (v := .string ⟨#[1]⟩) M2.2.1 0 rfl
  have c2_1_1 := Mem.cell (v := .string ⟨#[]⟩) M2.2.1 1 rfl
  have z2_1 := Mem.lt M2.2.1
  have z2_2 := Mem.lt M2.2.2.1
  simp only
  iterate 4 go_step
  have oo2_0 : w1.heap.size < w2.heap.size := Mem.lt M2.1
  have oo2_1 : w.heap.size < w2.heap.size := Mem.lt M2.2.1
  have oo2_2 : gf < w2.heap.size := Mem.lt M2.2.2.1
  refine wpl_named ?_
  intro w3 hW3
  have hB3 : Below w.heap.size w w3 := by rw [hW3]; exact (below_al hB2 _)
  have hw3 : Laid w3 := by rw [hW3]; exact (hw2.alloc _)
  have M3 : Mem w3 [(w2.heap.size, .cells (th (th0)) 39), (w1.heap.size, .cells #[.slice (ptA gf) 1 fc, .slice none 0 0, .slice none 0 0] 36), (w.heap.size, .cells #[.string ⟨#[1]⟩, .string ⟨#[]⟩] 24), (gf, .cells cf 104)] := by rw [hW3]; exact (M2).new' (w2.heap.size) (by rfl) (.cells (th (th0)) 39)
  clear c2_0_0 c2_0_1 c2_0_2 z2_0 c2_1_0 c2_1_1 z2_1 z2_2
  clear hW3
  have z3_0 := Mem.lt M3.1
  have c3_1_0 := Mem.cell (v := .slice (ptA gf) 1 fc) M3.2.1 0 rfl
  have c3_1_1 := Mem.cell (v := .slice none 0 0) M3.2.1 1 rfl
  have c3_1_2 := Mem.cell (v := .slice none 0 0) M3.2.1 2 rfl
  have z3_1 := Mem.lt M3.2.1
  have c3_2_0 := Mem.cell (v := .string ⟨#[1]⟩) M3.2.2.1 0 rfl
  have c3_2_1 := Mem.cell (v := .string ⟨#[]⟩) M3.2.2.1 1 rfl
  have z3_2 := Mem.lt M3.2.2.1
  have z3_3 := Mem.lt M3.2.2.2.1
  refine store_th rfl _ _ rfl (w2.heap.size) rfl (th0) ((exT gf fc)) rfl M3.1 (one_th _) ?_
  intro w4 hW4
  have hB4 : Below w.heap.size w w4 := by rw [hW4]; exact below_setCells (B := w.heap.size) hB3 (b := w2.heap.size) (by have := hB3.size; omega) 0 _
  have hw4 : Laid w4 := hw0.below hB4
  have M4 : Mem w4 [(w2.heap.size, .cells (th ((exT gf fc))) 39), (w1.heap.size, .cells #[.slice (ptA gf) 1 fc, .slice none 0 0, .slice none 0 0] 36), (w.heap.size, .cells #[.string ⟨#[1]⟩, .string ⟨#[]⟩] 24), (gf, .cells cf 104)] := by rw [hW4]; exact ⟨set_th M3.1 _, (setCells_other _ 0 _ _ (by omega)).trans M3.2.1, (setCells_other _ 0 _ _ (by omega)).trans M3.2.2.1, (setCells_other _ 0 _ _ (by omega)).trans M3.2.2.2.1, trivial⟩
  clear z3_0 c3_1_0 c3_1_1 c3_1_2 z3_1 c3_2_0 c3_2_1 z3_2 z3_3
  clear hW4
  have z4_0 := Mem.lt M4.1
  have c4_1_0 := Mem.cell (v := .slice (ptA gf) 1 fc) M4.2.1 0 rfl
  have c4_1_1 := Mem.cell (v := .slice none 0 0) M4.2.1 1 rfl
  have c4_1_2 := Mem.cell (v := .slice none 0 0) M4.2.1 2 rfl
  have z4_1 := Mem.lt M4.2.1
  have c4_2_0 := Mem.cell (v := .string ⟨#[1]⟩) M4.2.2.1 0 rfl
  have c4_2_1 := Mem.cell (v := .string ⟨#[]⟩) M4.2.2.1 1 rfl
  have z4_2 := Mem.lt M4.2.2.1
  have z4_3 := Mem.lt M4.2.2.2.1
  go_upto_region 4 with (fail)
  refine wp_region_lit ?_
  refine load_th rfl _ rfl (w2.heap.size) rfl ((exT gf fc)) M4.1 ?_
  go_wp2_with fail
  refine Calls.named ?_
  intro W5 hW5
  have hB5_ : Below w.heap.size w W5 := by rw [hW5]; exact hB4
  have hw5_ : Laid W5 := by rw [hW5]; exact hw4
  have M5_ := M4
  rw [← hW5] at M5_
  clear hW5
  have ZZ5_0 := Lib.hid (Mem.lt M5_.1)
  have ZZ5_1 := Lib.hid (Mem.lt M5_.2.1)
  have ZZ5_2 := Lib.hid (Mem.lt M5_.2.2.1)
  have ZZ5_3 := Lib.hid (Mem.lt M5_.2.2.2.1)
  clear z4_0 c4_1_0 c4_1_1 c4_1_2 z4_1 c4_2_0 c4_2_1 z4_2 z4_3
  refine (ex_name gf fc _ hw5_).mono ?_
  rintro e w5 ⟨rfl, hb5⟩
  have hB5 := below_then hB5_ hb5
  have hw5 := hw5_.below hb5
  have M5 := M5_.below hb5
  clear M5_ hB5_ hb5 hw5_
  have z5_0 := Mem.lt M5.1
  have c5_1_0 := Mem.cell (v := .slice (ptA gf) 1 fc) M5.2.1 0 rfl
  have c5_1_1 := Mem.cell (v := .slice none 0 0) M5.2.1 1 rfl
  have c5_1_2 := Mem.cell (v := .slice none 0 0) M5.2.1 2 rfl
  have z5_1 := Mem.lt M5.2.1
  have c5_2_0 := Mem.cell (v := .string ⟨#[1]⟩) M5.2.2.1 0 rfl
  have c5_2_1 := Mem.cell (v := .string ⟨#[]⟩) M5.2.2.1 1 rfl
  have z5_2 := Mem.lt M5.2.2.1
  have z5_3 := Mem.lt M5.2.2.2.1
  simp only
  iterate 16 go_step
  have oo5_0 : w2.heap.size < w5.heap.size := Mem.lt M5.1
  have oo5_1 : w1.heap.size < w5.heap.size := Mem.lt M5.2.1
  have oo5_2 : w.heap.size < w5.heap.size := Mem.lt M5.2.2.1
  have oo5_3 : gf < w5.heap.size := Mem.lt M5.2.2.2.1
  refine wpl_named ?_
  intro w6 hW6
  have hB6 : Below w.heap.size w w6 := by rw [hW6]; exact (below_al hB5 _)
  have hw6 : Laid w6 := by rw [hW6]; exact (hw5.alloc _)
  have M6 : Mem w6 [(w5.heap.size, .cells (th (th0)) 39), (w2.heap.size, .cells (th ((exT gf fc))) 39), (w1.heap.size, .cells #[.slice (ptA gf) 1 fc, .slice none 0 0, .slice none 0 0] 36), (w.heap.size, .cells #[.string ⟨#[1]⟩, .string ⟨#[]⟩] 24), (gf, .cells cf 104)] := by rw [hW6]; exact (M5).new' (w5.heap.size) (by rfl) (.cells (th (th0)) 39)
  clear z5_0 c5_1_0 c5_1_1 c5_1_2 z5_1 c5_2_0 c5_2_1 z5_2 z5_3
  clear hW6
  have z6_0 := Mem.lt M6.1
  have z6_1 := Mem.lt M6.2.1
  have c6_2_0 := Mem.cell (v := .slice (ptA gf) 1 fc) M6.2.2.1 0 rfl
  have c6_2_1 := Mem.cell (v := .slice none 0 0) M6.2.2.1 1 rfl
  have c6_2_2 := Mem.cell (v := .slice none 0 0) M6.2.2.1 2 rfl
  have z6_2 := Mem.lt M6.2.2.1
  have c6_3_0 := Mem.cell (v := .string ⟨#[1]⟩) M6.2.2.2.1 0 rfl
  have c6_3_1 := Mem.cell (v := .string ⟨#[]⟩) M6.2.2.2.1 1 rfl
  have z6_3 := Mem.lt M6.2.2.2.1
  have z6_4 := Mem.lt M6.2.2.2.2.1
  refine store_th rfl _ _ rfl (w5.heap.size) rfl (th0) ((exU gf fc)) rfl M6.1 (one_th _) ?_
  intro w7 hW7
  have hB7 : Below w.heap.size w w7 := by rw [hW7]; exact below_setCells (B := w.heap.size) hB6 (b := w5.heap.size) (by have := hB6.size; omega) 0 _
  have hw7 : Laid w7 := hw0.below hB7
  have M7 : Mem w7 [(w5.heap.size, .cells (th ((exU gf fc))) 39), (w2.heap.size, .cells (th ((exT gf fc))) 39), (w1.heap.size, .cells #[.slice (ptA gf) 1 fc, .slice none 0 0, .slice none 0 0] 36), (w.heap.size, .cells #[.string ⟨#[1]⟩, .string ⟨#[]⟩] 24), (gf, .cells cf 104)] := by rw [hW7]; exact ⟨set_th M6.1 _, (setCells_other _ 0 _ _ (by omega)).trans M6.2.1, (setCells_other _ 0 _ _ (by omega)).trans M6.2.2.1, (setCells_other _ 0 _ _ (by omega)).trans M6.2.2.2.1, (setCells_other _ 0 _ _ (by omega)).trans M6.2.2.2.2.1, trivial⟩
  clear z6_0 z6_1 c6_2_0 c6_2_1 c6_2_2 z6_2 c6_3_0 c6_3_1 z6_3 z6_4
  clear hW7
  have z7_0 := Mem.lt M7.1
  have z7_1 := Mem.lt M7.2.1
  have c7_2_0 := Mem.cell (v := .slice (ptA gf) 1 fc) M7.2.2.1 0 rfl
  have c7_2_1 := Mem.cell (v := .slice none 0 0) M7.2.2.1 1 rfl
  have c7_2_2 := Mem.cell (v := .slice none 0 0) M7.2.2.1 2 rfl
  have z7_2 := Mem.lt M7.2.2.1
  have c7_3_0 := Mem.cell (v := .string ⟨#[1]⟩) M7.2.2.2.1 0 rfl
  have c7_3_1 := Mem.cell (v := .string ⟨#[]⟩) M7.2.2.2.1 1 rfl
  have z7_3 := Mem.lt M7.2.2.2.1
  have z7_4 := Mem.lt M7.2.2.2.2.1
  replace M7 : Mem w7 [(w5.heap.size, .cells (th ((exU gf fc))) 39), (w1.heap.size, .cells #[.slice (ptA gf) 1 fc, .slice none 0 0, .slice none 0 0] 36), (w.heap.size, .cells #[.string ⟨#[1]⟩, .string ⟨#[]⟩] 24), (gf, .cells cf 104)] := ⟨M7.1, M7.2.2.1, M7.2.2.2.1, M7.2.2.2.2.1, trivial⟩
  clear z7_0 z7_1 c7_2_0 c7_2_1 c7_2_2 z7_2 c7_3_0 c7_3_1 z7_3 z7_4
  have z7_0 := Mem.lt M7.1
  have c7_1_0 := Mem.cell (v := .slice (ptA gf) 1 fc) M7.2.1 0 rfl
  have c7_1_1 := Mem.cell (v := .slice none 0 0) M7.2.1 1 rfl
  have c7_1_2 := Mem.cell (v := .slice none 0 0) M7.2.1 2 rfl
  have z7_1 := Mem.lt M7.2.1
  have c7_2_0 := Mem.cell (v := .string ⟨#[1]⟩) M7.2.2.1 0 rfl
  have c7_2_1 := Mem.cell (v := .string ⟨#[]⟩) M7.2.2.1 1 rfl
  have z7_2 := Mem.lt M7.2.2.1
  have z7_3 := Mem.lt M7.2.2.2.1
  go_upto_region 5 with (fail)
  go_cut [8, 9] (fun s8 s9 wx => ∃ b g fc2 gs sc cur, s8 = .pointer (some ⟨b, 0, none⟩) ∧ s9 = .int .i64 0 ∧ Below w7.heap.size w7 wx ∧ wx.heap[b]? = some (.cells (th (exV g fc2 gs sc)) 39) ∧ wx.heap[gs]? = some (.cells cur 56) ∧ Hid (cur.toList.take 14 = scL exS) ∧ w7.heap.size ≤ b ∧ w7.heap.size ≤ gs ∧ b ≠ gs ∧ 2 ≤ fc2 ∧ fc2 ≤ maxLen ∧ 1 ≤ sc ∧ sc ≤ maxLen)
  case first =>
    as_aux_lemma =>
      have hX := Lib.hid (Below.refl w7.heap.size w7)
      clear z7_0 c7_1_0 c7_1_1 c7_1_2 z7_1 c7_2_0 c7_2_1 z7_2 z7_3
      refine wp_region_held (S := fun w' => Mem w' [(w5.heap.size, .cells (th ((exU gf fc))) 39), (w1.heap.size, .cells #[.slice (ptA gf) 1 fc, .slice none 0 0, .slice none 0 0] 36), (w.heap.size, .cells #[.string ⟨#[1]⟩, .string ⟨#[]⟩] 24), (gf, .cells cf 104)]) (by kernel_rfl) ?_
      change wpAnyH _ _ _ _ _ 10 (Array.replicate 10 false) _ w7.drew
      refine anyH_named ?_
      intro w8 hW8
      have hB8 : Below w.heap.size w w8 := by rw [hW8]; exact below_dr hB7
      have hw8 : Laid w8 := by rw [hW8]; exact hw7.below (below_dr (Below.refl _ _))
      have M8 : Mem w8 [(w5.heap.size, .cells (th ((exU gf fc))) 39), (w1.heap.size, .cells #[.slice (ptA gf) 1 fc, .slice none 0 0, .slice none 0 0] 36), (w.heap.size, .cells #[.string ⟨#[1]⟩, .string ⟨#[]⟩] 24), (gf, .cells cf 104)] := by rw [hW8]; exact Mem.drew M7
      have zz8 : w7.heap.size ≤ w8.heap.size := by rw [hW8]; exact Nat.le_refl _
      replace hX := hid_then hX (below_dr (Below.refl _ w7))
      rw [← hW8] at hX
      clear hW8
      have zh8_0 := Mem.lt M8.1
      have zh8_1 := Mem.lt M8.2.1
      have zh8_2 := Mem.lt M8.2.2.1
      have zh8_3 := Mem.lt M8.2.2.2.1
      refine wpAnyH_take (i := 0) (v := .agg (th ((exU gf fc)))) rfl (by decide +kernel) (by decide +kernel) (by decide +kernel) (fun _ _ _ h => h) (yieldsIf_load_mid (by rfl) 39 _ rfl (w5.heap.size) 0 (by rfl) (th ((exU gf fc))).toList _ (fun w hSw => range_block hSw.1) Tryz.underlying39 rfl info_th) M8 ?_
      try simp only [Act.put, List.getElem_toArray, List.getElem_cons_zero, List.setIfInBounds_toArray, List.set_cons_zero, List.set_cons_succ]
      refine wpAnyH_take (i := 2) (v := ?_) rfl (by decide +kernel) (by decide +kernel) (by decide +kernel) (fun _ _ _ h => h) (Or.inl ⟨by rfl, ?_⟩) M8 ?_
      rotate_left
      · intro w hSw
        have s_0 := Mem.cell (v := .string ⟨#[1]⟩) hSw.2.2.1 0 rfl
        have s_1 := Mem.cell (v := .string ⟨#[]⟩) hSw.2.2.1 1 rfl
        clear hSw
        go_simp; try (with_reducible rfl)
      try simp only [Act.put, List.getElem_toArray, List.getElem_cons_succ, List.getElem_cons_zero, List.setIfInBounds_toArray, List.set_cons_zero, List.set_cons_succ]
      refine wpAnyH_ready (rs := [1, 7]) (by decide +kernel) (by simp) (AllReadyH.cons rfl ?_ (AllReadyH.cons rfl ?_ AllReadyH.nil))
      · skip
        intro K hK
        rw [if_pos (by rfl)]
        go_simp
        go_at_call 10
        refine (number_any 7 _).mono ?_
        rintro e w9 ⟨rfl, hb9⟩
        have hB9 := below_then hB8 hb9
        have hw9 := hw8.below hb9
        have M9 := M8.below hb9
        replace hX := hid_then hX hb9
        have zz9 := hb9.size
        clear hb9
        refine hK.out _ _ M9 (fun _ => ?_)
        clear hK K
        try simp only [Act.put, List.getElem_toArray, List.getElem_cons_succ, List.getElem_cons_zero, List.setIfInBounds_toArray, List.set_cons_zero, List.set_cons_succ]
        refine wpAnyH_ready (rs := [3, 7]) (by decide +kernel) (by simp) (AllReadyH.cons rfl ?_ (AllReadyH.cons rfl ?_ AllReadyH.nil))
        · skip
          intro K hK
          rw [if_pos (by rfl)]
          go_simp
          go_at_call 9
          refine (ex_enter gf fc _ (by simp) hfc hfc2 _ hw9 (rows_box M9.2.2.2.1 HFT.out)).mono ?_
          rintro e w10 ⟨g, fc2, gs, sc, cur, rfl, hgs, hgsc, hgst, hfc3, hfc4, hsc1, hsc2, hb10⟩
          have hB10 := below_then hB9 hb10
          have hw10 := hw9.below hb10
          have M10 := M9.below hb10
          replace hX := hid_then hX hb10
          have zz10 := hb10.size
          clear hb10
          refine hK.out _ _ M10 (fun _ => ?_)
          clear hK K
          try simp only [Act.put, List.getElem_toArray, List.getElem_cons_succ, List.getElem_cons_zero, List.setIfInBounds_toArray, List.set_cons_zero, List.set_cons_succ]
          have HGT := Lib.hid hgst
          clear hgst
          replace M10 : Mem w10 [(w5.heap.size, .cells (th ((exU gf fc))) 39), (w1.heap.size, .cells #[.slice (ptA gf) 1 fc, .slice none 0 0, .slice none 0 0] 36), (w.heap.size, .cells #[.string ⟨#[1]⟩, .string ⟨#[]⟩] 24), (gf, .cells cf 104), (gs, .cells cur 56)] := ⟨M10.1, M10.2.1, M10.2.2.1, M10.2.2.2.1, hgsc, trivial⟩
          have ygs := Mem.lt M10.2.2.2.2.1
          refine wpAnyH_take (i := 4) (v := ?_) rfl (by decide +kernel) (by decide +kernel) (by decide +kernel) (fun _ _ _ h => h) (Or.inl ⟨by rfl, ?_⟩) ⟨M10.1, M10.2.1, M10.2.2.1, M10.2.2.2.1, trivial⟩ ?_
          rotate_left
          · intro w hSw
            clear hSw
            go_simp; try (with_reducible rfl)
          try simp only [Act.put, List.getElem_toArray, List.getElem_cons_succ, List.getElem_cons_zero, List.setIfInBounds_toArray, List.set_cons_zero, List.set_cons_succ]
          refine wpAnyH_take (i := 5) (v := ?_) rfl (by decide +kernel) (by decide +kernel) (by decide +kernel) (fun _ _ _ h => h) (Or.inl ⟨by rfl, ?_⟩) ⟨M10.1, M10.2.1, M10.2.2.1, M10.2.2.2.1, trivial⟩ ?_
          rotate_left
          · intro w hSw
            clear hSw
            go_simp; try (with_reducible rfl)
          try simp only [Act.put, List.getElem_toArray, List.getElem_cons_succ, List.getElem_cons_zero, List.setIfInBounds_toArray, List.set_cons_zero, List.set_cons_succ]
          refine wpAnyH_take (i := 6) (v := ?_) rfl (by decide +kernel) (by decide +kernel) (by decide +kernel) (fun _ _ _ h => h) (Or.inl ⟨by rfl, ?_⟩) ⟨M10.1, M10.2.1, M10.2.2.1, M10.2.2.2.1, trivial⟩ ?_
          rotate_left
          · intro w hSw
            clear hSw
            go_simp; try (with_reducible rfl)
          try simp only [Act.put, List.getElem_toArray, List.getElem_cons_succ, List.getElem_cons_zero, List.setIfInBounds_toArray, List.set_cons_zero, List.set_cons_succ]
          refine wpAnyH_ready (rs := [7]) (by decide +kernel) (by simp) (AllReadyH.cons rfl ?_ AllReadyH.nil)
          intro K hK
          rw [if_pos (by rfl)]
          go_simp
          have N11 : Mem (w10.alloc (.cells (th (th0)) 39)) [(w10.heap.size, .cells (th (th0)) 39), (w5.heap.size, .cells (th ((exU gf fc))) 39), (w1.heap.size, .cells #[.slice (ptA gf) 1 fc, .slice none 0 0, .slice none 0 0] 36), (w.heap.size, .cells #[.string ⟨#[1]⟩, .string ⟨#[]⟩] 24), (gf, .cells cf 104), (gs, .cells cur 56)] := (M10).new' (w10.heap.size) (by rfl) (.cells (th (th0)) 39)
          refine hK.out _ _ ⟨N11.2.1, N11.2.2.1, N11.2.2.2.1, N11.2.2.2.2.1, trivial⟩ (fun _ => ?_)
          clear hK K
          try simp only [Act.put, List.getElem_toArray, List.getElem_cons_succ, List.getElem_cons_zero, List.setIfInBounds_toArray, List.set_cons_zero, List.set_cons_succ]
          refine anyH_named ?_
          intro w11 hW11
          have hB11 : Below w.heap.size w w11 := by rw [hW11]; exact below_al hB10 _
          have hw11 : Laid w11 := by rw [hW11]; exact hw10.alloc _
          have M11 : Mem w11 [(w10.heap.size, .cells (th (th0)) 39), (w5.heap.size, .cells (th ((exU gf fc))) 39), (w1.heap.size, .cells #[.slice (ptA gf) 1 fc, .slice none 0 0, .slice none 0 0] 36), (w.heap.size, .cells #[.string ⟨#[1]⟩, .string ⟨#[]⟩] 24), (gf, .cells cf 104), (gs, .cells cur 56)] := by rw [hW11]; exact N11
          replace hX := hid_then hX (below_al (Below.refl _ w10) (.cells (th (th0)) 39))
          rw [show w10.alloc (.cells (th (th0)) 39) = w11 from hW11.symm] at hX
          clear hW11 N11
          have zz11 : w10.heap.size < w11.heap.size := Mem.lt M11.1
          refine wpAnyH_ready (rs := [8]) (by decide +kernel) (by simp) (AllReadyH.cons rfl ?_ AllReadyH.nil)
          intro K hK
          rw [if_pos (by rfl)]
          refine wp_store_mid 39 _ _ rfl (w10.heap.size) 0 (th ((exV g fc2 gs sc))) (by rfl) (by rfl) (there_block M11.1 (Nat.le_refl 20)) info_th (one_th _) ?_
          have N12 : Mem (w11.setCells (w10.heap.size) 0 (th ((exV g fc2 gs sc))).toList) [(w10.heap.size, .cells (th ((exV g fc2 gs sc))) 39), (w5.heap.size, .cells (th ((exU gf fc))) 39), (w1.heap.size, .cells #[.slice (ptA gf) 1 fc, .slice none 0 0, .slice none 0 0] 36), (w.heap.size, .cells #[.string ⟨#[1]⟩, .string ⟨#[]⟩] 24), (gf, .cells cf 104), (gs, .cells cur 56)] := ⟨set_th M11.1 _, (setCells_other _ 0 _ _ (by omega)).trans M11.2.1, (setCells_other _ 0 _ _ (by omega)).trans M11.2.2.1, (setCells_other _ 0 _ _ (by omega)).trans M11.2.2.2.1, (setCells_other _ 0 _ _ (by omega)).trans M11.2.2.2.2.1, (setCells_other _ 0 _ _ (by omega)).trans M11.2.2.2.2.2.1, trivial⟩
          refine hK.out _ _ ⟨N12.2.1, N12.2.2.1, N12.2.2.2.1, N12.2.2.2.2.1, trivial⟩ (fun _ => ?_)
          clear hK K
          try simp only [Act.put, List.getElem_toArray, List.getElem_cons_succ, List.getElem_cons_zero]
          refine anyH_named ?_
          intro w12 hW12
          have hB12 : Below w.heap.size w w12 := by rw [hW12]; exact below_setCells (B := w.heap.size) hB11 (b := w10.heap.size) (by have := hB11.size; omega) 0 _
          have hw12 : Laid w12 := hw0.below hB12
          have M12 : Mem w12 [(w10.heap.size, .cells (th ((exV g fc2 gs sc))) 39), (w5.heap.size, .cells (th ((exU gf fc))) 39), (w1.heap.size, .cells #[.slice (ptA gf) 1 fc, .slice none 0 0, .slice none 0 0] 36), (w.heap.size, .cells #[.string ⟨#[1]⟩, .string ⟨#[]⟩] 24), (gf, .cells cf 104), (gs, .cells cur 56)] := by rw [hW12]; exact N12
          have hY := below_setCells hX.out (b := w10.heap.size) (by omega) 0 (th ((exV g fc2 gs sc))).toList
          rw [show w11.setCells (w10.heap.size) 0 (th ((exV g fc2 gs sc))).toList = w12 from hW12.symm] at hY
          clear hW12 N12
          refine wpAnyH_take (i := 9) (v := ?_) rfl (by decide +kernel) (by decide +kernel) (by decide +kernel) (fun _ _ _ h => h) (Or.inl ⟨by rfl, ?_⟩) ⟨M12.2.1, M12.2.2.1, M12.2.2.2.1, M12.2.2.2.2.1, trivial⟩ ?_
          rotate_left
          · intro w hSw
            clear hSw
            go_simp; try (with_reducible rfl)
          try simp only [Act.put, List.getElem_toArray, List.getElem_cons_succ, List.getElem_cons_zero, List.setIfInBounds_toArray, List.set_cons_zero, List.set_cons_succ]
          refine wpAnyH_done (by kernel_rfl) ?_ _
          have z12_0 := Mem.lt M12.1
          have z12_1 := Mem.lt M12.2.1
          have c12_2_0 := Mem.cell (v := .slice (ptA gf) 1 fc) M12.2.2.1 0 rfl
          have c12_2_1 := Mem.cell (v := .slice none 0 0) M12.2.2.1 1 rfl
          have c12_2_2 := Mem.cell (v := .slice none 0 0) M12.2.2.1 2 rfl
          have z12_2 := Mem.lt M12.2.2.1
          have c12_3_0 := Mem.cell (v := .string ⟨#[1]⟩) M12.2.2.2.1 0 rfl
          have c12_3_1 := Mem.cell (v := .string ⟨#[]⟩) M12.2.2.2.1 1 rfl
          have z12_3 := Mem.lt M12.2.2.2.1
          have z12_4 := Mem.lt M12.2.2.2.2.1
          have z12_5 := Mem.lt M12.2.2.2.2.2.1
          go_wp2_with fail
          go_meet
          exact ⟨_, g, fc2, gs, sc, cur, rfl, rfl, hY, M12.1, M12.2.2.2.2.2.1, HGT, by omega, by omega, by omega, hfc3, hfc4, hsc1, hsc2⟩
        · skip
          intro K hK
          rw [if_pos (by rfl)]
          go_simp
          have N10 : Mem (w9.alloc (.cells (th (th0)) 39)) [(w9.heap.size, .cells (th (th0)) 39), (w5.heap.size, .cells (th ((exU gf fc))) 39), (w1.heap.size, .cells #[.slice (ptA gf) 1 fc, .slice none 0 0, .slice none 0 0] 36), (w.heap.size, .cells #[.string ⟨#[1]⟩, .string ⟨#[]⟩] 24), (gf, .cells cf 104)] := (M9).new' (w9.heap.size) (by rfl) (.cells (th (th0)) 39)
          refine hK.out _ _ ⟨N10.2.1, N10.2.2.1, N10.2.2.2.1, N10.2.2.2.2.1, trivial⟩ (fun _ => ?_)
          clear hK K
          try simp only [Act.put, List.getElem_toArray, List.getElem_cons_succ, List.getElem_cons_zero, List.setIfInBounds_toArray, List.set_cons_zero, List.set_cons_succ]
          refine anyH_named ?_
          intro w10 hW10
          have hB10 : Below w.heap.size w w10 := by rw [hW10]; exact below_al hB9 _
          have hw10 : Laid w10 := by rw [hW10]; exact hw9.alloc _
          have M10 : Mem w10 [(w9.heap.size, .cells (th (th0)) 39), (w5.heap.size, .cells (th ((exU gf fc))) 39), (w1.heap.size, .cells #[.slice (ptA gf) 1 fc, .slice none 0 0, .slice none 0 0] 36), (w.heap.size, .cells #[.string ⟨#[1]⟩, .string ⟨#[]⟩] 24), (gf, .cells cf 104)] := by rw [hW10]; exact N10
          replace hX := hid_then hX (below_al (Below.refl _ w9) (.cells (th (th0)) 39))
          rw [show w9.alloc (.cells (th (th0)) 39) = w10 from hW10.symm] at hX
          clear hW10 N10
          have zz10 : w9.heap.size < w10.heap.size := Mem.lt M10.1
          refine wpAnyH_ready (rs := [3]) (by decide +kernel) (by simp) (AllReadyH.cons rfl ?_ AllReadyH.nil)
          intro K hK
          rw [if_pos (by rfl)]
          go_simp
          go_at_call 9
          refine (ex_enter gf fc _ (by simp) hfc hfc2 _ hw10 (rows_box M10.2.2.2.2.1 HFT.out)).mono ?_
          rintro e w11 ⟨g, fc2, gs, sc, cur, rfl, hgs, hgsc, hgst, hfc3, hfc4, hsc1, hsc2, hb11⟩
          have hB11 := below_then hB10 hb11
          have hw11 := hw10.below hb11
          have M11 := M10.below hb11
          replace hX := hid_then hX hb11
          have zz11 := hb11.size
          clear hb11
          refine hK.out _ _ ⟨M11.2.1, M11.2.2.1, M11.2.2.2.1, M11.2.2.2.2.1, trivial⟩ (fun _ => ?_)
          clear hK K
          try simp only [Act.put, List.getElem_toArray, List.getElem_cons_succ, List.getElem_cons_zero, List.setIfInBounds_toArray, List.set_cons_zero, List.set_cons_succ]
          have HGT := Lib.hid hgst
          clear hgst
          replace M11 : Mem w11 [(w9.heap.size, .cells (th (th0)) 39), (w5.heap.size, .cells (th ((exU gf fc))) 39), (w1.heap.size, .cells #[.slice (ptA gf) 1 fc, .slice none 0 0, .slice none 0 0] 36), (w.heap.size, .cells #[.string ⟨#[1]⟩, .string ⟨#[]⟩] 24), (gf, .cells cf 104), (gs, .cells cur 56)] := ⟨M11.1, M11.2.1, M11.2.2.1, M11.2.2.2.1, M11.2.2.2.2.1, hgsc, trivial⟩
          have ygs := Mem.lt M11.2.2.2.2.2.1
          refine wpAnyH_take (i := 4) (v := ?_) rfl (by decide +kernel) (by decide +kernel) (by decide +kernel) (fun _ _ _ h => h) (Or.inl ⟨by rfl, ?_⟩) ⟨M11.2.1, M11.2.2.1, M11.2.2.2.1, M11.2.2.2.2.1, trivial⟩ ?_
          rotate_left
          · intro w hSw
            clear hSw
            go_simp; try (with_reducible rfl)
          try simp only [Act.put, List.getElem_toArray, List.getElem_cons_succ, List.getElem_cons_zero, List.setIfInBounds_toArray, List.set_cons_zero, List.set_cons_succ]
          refine wpAnyH_take (i := 5) (v := ?_) rfl (by decide +kernel) (by decide +kernel) (by decide +kernel) (fun _ _ _ h => h) (Or.inl ⟨by rfl, ?_⟩) ⟨M11.2.1, M11.2.2.1, M11.2.2.2.1, M11.2.2.2.2.1, trivial⟩ ?_
          rotate_left
          · intro w hSw
            clear hSw
            go_simp; try (with_reducible rfl)
          try simp only [Act.put, List.getElem_toArray, List.getElem_cons_succ, List.getElem_cons_zero, List.setIfInBounds_toArray, List.set_cons_zero, List.set_cons_succ]
          refine wpAnyH_take (i := 6) (v := ?_) rfl (by decide +kernel) (by decide +kernel) (by decide +kernel) (fun _ _ _ h => h) (Or.inl ⟨by rfl, ?_⟩) ⟨M11.2.1, M11.2.2.1, M11.2.2.2.1, M11.2.2.2.2.1, trivial⟩ ?_
          rotate_left
          · intro w hSw
            clear hSw
            go_simp; try (with_reducible rfl)
          try simp only [Act.put, List.getElem_toArray, List.getElem_cons_succ, List.getElem_cons_zero, List.setIfInBounds_toArray, List.set_cons_zero, List.set_cons_succ]
          refine wpAnyH_ready (rs := [8]) (by decide +kernel) (by simp) (AllReadyH.cons rfl ?_ AllReadyH.nil)
          intro K hK
          rw [if_pos (by rfl)]
          refine wp_store_mid 39 _ _ rfl (w9.heap.size) 0 (th ((exV g fc2 gs sc))) (by rfl) (by rfl) (there_block M11.1 (Nat.le_refl 20)) info_th (one_th _) ?_
          have N12 : Mem (w11.setCells (w9.heap.size) 0 (th ((exV g fc2 gs sc))).toList) [(w9.heap.size, .cells (th ((exV g fc2 gs sc))) 39), (w5.heap.size, .cells (th ((exU gf fc))) 39), (w1.heap.size, .cells #[.slice (ptA gf) 1 fc, .slice none 0 0, .slice none 0 0] 36), (w.heap.size, .cells #[.string ⟨#[1]⟩, .string ⟨#[]⟩] 24), (gf, .cells cf 104), (gs, .cells cur 56)] := ⟨set_th M11.1 _, (setCells_other _ 0 _ _ (by omega)).trans M11.2.1, (setCells_other _ 0 _ _ (by omega)).trans M11.2.2.1, (setCells_other _ 0 _ _ (by omega)).trans M11.2.2.2.1, (setCells_other _ 0 _ _ (by omega)).trans M11.2.2.2.2.1, (setCells_other _ 0 _ _ (by omega)).trans M11.2.2.2.2.2.1, trivial⟩
          refine hK.out _ _ ⟨N12.2.1, N12.2.2.1, N12.2.2.2.1, N12.2.2.2.2.1, trivial⟩ (fun _ => ?_)
          clear hK K
          try simp only [Act.put, List.getElem_toArray, List.getElem_cons_succ, List.getElem_cons_zero]
          refine anyH_named ?_
          intro w12 hW12
          have hB12 : Below w.heap.size w w12 := by rw [hW12]; exact below_setCells (B := w.heap.size) hB11 (b := w9.heap.size) (by have := hB11.size; omega) 0 _
          have hw12 : Laid w12 := hw0.below hB12
          have M12 : Mem w12 [(w9.heap.size, .cells (th ((exV g fc2 gs sc))) 39), (w5.heap.size, .cells (th ((exU gf fc))) 39), (w1.heap.size, .cells #[.slice (ptA gf) 1 fc, .slice none 0 0, .slice none 0 0] 36), (w.heap.size, .cells #[.string ⟨#[1]⟩, .string ⟨#[]⟩] 24), (gf, .cells cf 104), (gs, .cells cur 56)] := by rw [hW12]; exact N12
          have hY := below_setCells hX.out (b := w9.heap.size) (by omega) 0 (th ((exV g fc2 gs sc))).toList
          rw [show w11.setCells (w9.heap.size) 0 (th ((exV g fc2 gs sc))).toList = w12 from hW12.symm] at hY
          clear hW12 N12
          refine wpAnyH_take (i := 9) (v := ?_) rfl (by decide +kernel) (by decide +kernel) (by decide +kernel) (fun _ _ _ h => h) (Or.inl ⟨by rfl, ?_⟩) ⟨M12.2.1, M12.2.2.1, M12.2.2.2.1, M12.2.2.2.2.1, trivial⟩ ?_
          rotate_left
          · intro w hSw
            clear hSw
            go_simp; try (with_reducible rfl)
          try simp only [Act.put, List.getElem_toArray, List.getElem_cons_succ, List.getElem_cons_zero, List.setIfInBounds_toArray, List.set_cons_zero, List.set_cons_succ]
          refine wpAnyH_done (by kernel_rfl) ?_ _
          have z12_0 := Mem.lt M12.1
          have z12_1 := Mem.lt M12.2.1
          have c12_2_0 := Mem.cell (v := .slice (ptA gf) 1 fc) M12.2.2.1 0 rfl
          have c12_2_1 := Mem.cell (v := .slice none 0 0) M12.2.2.1 1 rfl
          have c12_2_2 := Mem.cell (v := .slice none 0 0) M12.2.2.1 2 rfl
          have z12_2 := Mem.lt M12.2.2.1
          have c12_3_0 := Mem.cell (v := .string ⟨#[1]⟩) M12.2.2.2.1 0 rfl
          have c12_3_1 := Mem.cell (v := .string ⟨#[]⟩) M12.2.2.2.1 1 rfl
          have z12_3 := Mem.lt M12.2.2.2.1
          have z12_4 := Mem.lt M12.2.2.2.2.1
          have z12_5 := Mem.lt M12.2.2.2.2.2.1
          go_wp2_with fail
          go_meet
          exact ⟨_, g, fc2, gs, sc, cur, rfl, rfl, hY, M12.1, M12.2.2.2.2.2.1, HGT, by omega, by omega, by omega, hfc3, hfc4, hsc1, hsc2⟩
      · skip
        intro K hK
        rw [if_pos (by rfl)]
        go_simp
        have N9 : Mem (w8.alloc (.cells (th (th0)) 39)) [(w8.heap.size, .cells (th (th0)) 39), (w5.heap.size, .cells (th ((exU gf fc))) 39), (w1.heap.size, .cells #[.slice (ptA gf) 1 fc, .slice none 0 0, .slice none 0 0] 36), (w.heap.size, .cells #[.string ⟨#[1]⟩, .string ⟨#[]⟩] 24), (gf, .cells cf 104)] := (M8).new' (w8.heap.size) (by rfl) (.cells (th (th0)) 39)
        refine hK.out _ _ ⟨N9.2.1, N9.2.2.1, N9.2.2.2.1, N9.2.2.2.2.1, trivial⟩ (fun _ => ?_)
        clear hK K
        try simp only [Act.put, List.getElem_toArray, List.getElem_cons_succ, List.getElem_cons_zero, List.setIfInBounds_toArray, List.set_cons_zero, List.set_cons_succ]
        refine anyH_named ?_
        intro w9 hW9
        have hB9 : Below w.heap.size w w9 := by rw [hW9]; exact below_al hB8 _
        have hw9 : Laid w9 := by rw [hW9]; exact hw8.alloc _
        have M9 : Mem w9 [(w8.heap.size, .cells (th (th0)) 39), (w5.heap.size, .cells (th ((exU gf fc))) 39), (w1.heap.size, .cells #[.slice (ptA gf) 1 fc, .slice none 0 0, .slice none 0 0] 36), (w.heap.size, .cells #[.string ⟨#[1]⟩, .string ⟨#[]⟩] 24), (gf, .cells cf 104)] := by rw [hW9]; exact N9
        replace hX := hid_then hX (below_al (Below.refl _ w8) (.cells (th (th0)) 39))
        rw [show w8.alloc (.cells (th (th0)) 39) = w9 from hW9.symm] at hX
        clear hW9 N9
        have zz9 : w8.heap.size < w9.heap.size := Mem.lt M9.1
        refine wpAnyH_ready (rs := [1]) (by decide +kernel) (by simp) (AllReadyH.cons rfl ?_ AllReadyH.nil)
        intro K hK
        rw [if_pos (by rfl)]
        go_simp
        go_at_call 10
        refine (number_any 7 _).mono ?_
        rintro e w10 ⟨rfl, hb10⟩
        have hB10 := below_then hB9 hb10
        have hw10 := hw9.below hb10
        have M10 := M9.below hb10
        replace hX := hid_then hX hb10
        have zz10 := hb10.size
        clear hb10
        refine hK.out _ _ ⟨M10.2.1, M10.2.2.1, M10.2.2.2.1, M10.2.2.2.2.1, trivial⟩ (fun _ => ?_)
        clear hK K
        try simp only [Act.put, List.getElem_toArray, List.getElem_cons_succ, List.getElem_cons_zero, List.setIfInBounds_toArray, List.set_cons_zero, List.set_cons_succ]
        refine wpAnyH_ready (rs := [3]) (by decide +kernel) (by simp) (AllReadyH.cons rfl ?_ AllReadyH.nil)
        intro K hK
        rw [if_pos (by rfl)]
        go_simp
        go_at_call 9
        refine (ex_enter gf fc _ (by simp) hfc hfc2 _ hw10 (rows_box M10.2.2.2.2.1 HFT.out)).mono ?_
        rintro e w11 ⟨g, fc2, gs, sc, cur, rfl, hgs, hgsc, hgst, hfc3, hfc4, hsc1, hsc2, hb11⟩
        have hB11 := below_then hB10 hb11
        have hw11 := hw10.below hb11
        have M11 := M10.below hb11
        replace hX := hid_then hX hb11
        have zz11 := hb11.size
        clear hb11
        refine hK.out _ _ ⟨M11.2.1, M11.2.2.1, M11.2.2.2.1, M11.2.2.2.2.1, trivial⟩ (fun _ => ?_)
        clear hK K
        try simp only [Act.put, List.getElem_toArray, List.getElem_cons_succ, List.getElem_cons_zero, List.setIfInBounds_toArray, List.set_cons_zero, List.set_cons_succ]
        have HGT := Lib.hid hgst
        clear hgst
        replace M11 : Mem w11 [(w8.heap.size, .cells (th (th0)) 39), (w5.heap.size, .cells (th ((exU gf fc))) 39), (w1.heap.size, .cells #[.slice (ptA gf) 1 fc, .slice none 0 0, .slice none 0 0] 36), (w.heap.size, .cells #[.string ⟨#[1]⟩, .string ⟨#[]⟩] 24), (gf, .cells cf 104), (gs, .cells cur 56)] := ⟨M11.1, M11.2.1, M11.2.2.1, M11.2.2.2.1, M11.2.2.2.2.1, hgsc, trivial⟩
        have ygs := Mem.lt M11.2.2.2.2.2.1
        refine wpAnyH_take (i := 4) (v := ?_) rfl (by decide +kernel) (by decide +kernel) (by decide +kernel) (fun _ _ _ h => h) (Or.inl ⟨by rfl, ?_⟩) ⟨M11.2.1, M11.2.2.1, M11.2.2.2.1, M11.2.2.2.2.1, trivial⟩ ?_
        rotate_left
        · intro w hSw
          clear hSw
          go_simp; try (with_reducible rfl)
        try simp only [Act.put, List.getElem_toArray, List.getElem_cons_succ, List.getElem_cons_zero]
        refine wpAnyH_take (i := 5) (v := ?_) rfl (by decide +kernel) (by decide +kernel) (by decide +kernel) (fun _ _ _ h => h) (Or.inl ⟨by rfl, ?_⟩) ⟨M11.2.1, M11.2.2.1, M11.2.2.2.1, M11.2.2.2.2.1, trivial⟩ ?_
        rotate_left
        · intro w hSw
          clear hSw
          go_simp; try (with_reducible rfl)
        try simp only [Act.put, List.getElem_toArray, List.getElem_cons_succ, List.getElem_cons_zero, List.setIfInBounds_toArray, List.set_cons_zero, List.set_cons_succ]
        refine wpAnyH_take (i := 6) (v := ?_) rfl (by decide +kernel) (by decide +kernel) (by decide +kernel) (fun _ _ _ h => h) (Or.inl ⟨by rfl, ?_⟩) ⟨M11.2.1, M11.2.2.1, M11.2.2.2.1, M11.2.2.2.2.1, trivial⟩ ?_
        rotate_left
        · intro w hSw
          clear hSw
          go_simp; try (with_reducible rfl)
        try simp only [Act.put, List.getElem_toArray, List.getElem_cons_succ, List.getElem_cons_zero, List.setIfInBounds_toArray, List.set_cons_zero, List.set_cons_succ]
        refine wpAnyH_ready (rs := [8]) (by decide +kernel) (by simp) (AllReadyH.cons rfl ?_ AllReadyH.nil)
        intro K hK
        rw [if_pos (by rfl)]
        refine wp_store_mid 39 _ _ rfl (w8.heap.size) 0 (th ((exV g fc2 gs sc))) (by rfl) (by rfl) (there_block M11.1 (Nat.le_refl 20)) info_th (one_th _) ?_
        have N12 : Mem (w11.setCells (w8.heap.size) 0 (th ((exV g fc2 gs sc))).toList) [(w8.heap.size, .cells (th ((exV g fc2 gs sc))) 39), (w5.heap.size, .cells (th ((exU gf fc))) 39), (w1.heap.size, .cells #[.slice (ptA gf) 1 fc, .slice none 0 0, .slice none 0 0] 36), (w.heap.size, .cells #[.string ⟨#[1]⟩, .string ⟨#[]⟩] 24), (gf, .cells cf 104), (gs, .cells cur 56)] := ⟨set_th M11.1 _, (setCells_other _ 0 _ _ (by omega)).trans M11.2.1, (setCells_other _ 0 _ _ (by omega)).trans M11.2.2.1, (setCells_other _ 0 _ _ (by omega)).trans M11.2.2.2.1, (setCells_other _ 0 _ _ (by omega)).trans M11.2.2.2.2.1, (setCells_other _ 0 _ _ (by omega)).trans M11.2.2.2.2.2.1, trivial⟩
        refine hK.out _ _ ⟨N12.2.1, N12.2.2.1, N12.2.2.2.1, N12.2.2.2.2.1, trivial⟩ (fun _ => ?_)
        clear hK K
        try simp only [Act.put, List.getElem_toArray, List.getElem_cons_succ, List.getElem_cons_zero]
        refine anyH_named ?_
        intro w12 hW12
        have hB12 : Below w.heap.size w w12 := by rw [hW12]; exact below_setCells (B := w.heap.size) hB11 (b := w8.heap.size) (by have := hB11.size; omega) 0 _
        have hw12 : Laid w12 := hw0.below hB12
        have M12 : Mem w12 [(w8.heap.size, .cells (th ((exV g fc2 gs sc))) 39), (w5.heap.size, .cells (th ((exU gf fc))) 39), (w1.heap.size, .cells #[.slice (ptA gf) 1 fc, .slice none 0 0, .slice none 0 0] 36), (w.heap.size, .cells #[.string ⟨#[1]⟩, .string ⟨#[]⟩] 24), (gf, .cells cf 104), (gs, .cells cur 56)] := by rw [hW12]; exact N12
        have hY := below_setCells hX.out (b := w8.heap.size) (by omega) 0 (th ((exV g fc2 gs sc))).toList
        rw [show w11.setCells (w8.heap.size) 0 (th ((exV g fc2 gs sc))).toList = w12 from hW12.symm] at hY
        clear hW12 N12
        refine wpAnyH_take (i := 9) (v := ?_) rfl (by decide +kernel) (by decide +kernel) (by decide +kernel) (fun _ _ _ h => h) (Or.inl ⟨by rfl, ?_⟩) ⟨M12.2.1, M12.2.2.1, M12.2.2.2.1, M12.2.2.2.2.1, trivial⟩ ?_
        rotate_left
        · intro w hSw
          clear hSw
          go_simp; try (with_reducible rfl)
        try simp only [Act.put, List.getElem_toArray, List.getElem_cons_succ, List.getElem_cons_zero, List.setIfInBounds_toArray, List.set_cons_zero, List.set_cons_succ]
        refine wpAnyH_done (by kernel_rfl) ?_ _
        have z12_0 := Mem.lt M12.1
        have z12_1 := Mem.lt M12.2.1
        have c12_2_0 := Mem.cell (v := .slice (ptA gf) 1 fc) M12.2.2.1 0 rfl
        have c12_2_1 := Mem.cell (v := .slice none 0 0) M12.2.2.1 1 rfl
        have c12_2_2 := Mem.cell (v := .slice none 0 0) M12.2.2.1 2 rfl
        have z12_2 := Mem.lt M12.2.2.1
        have c12_3_0 := Mem.cell (v := .string ⟨#[1]⟩) M12.2.2.2.1 0 rfl
        have c12_3_1 := Mem.cell (v := .string ⟨#[]⟩) M12.2.2.2.1 1 rfl
        have z12_3 := Mem.lt M12.2.2.2.1
        have z12_4 := Mem.lt M12.2.2.2.2.1
        have z12_5 := Mem.lt M12.2.2.2.2.2.1
        go_wp2_with fail
        go_meet
        exact ⟨_, g, fc2, gs, sc, cur, rfl, rfl, hY, M12.1, M12.2.2.2.2.2.1, HGT, by omega, by omega, by omega, hfc3, hfc4, hsc1, hsc2⟩
  case rest =>
    as_aux_lemma =>
      obtain ⟨bv, g, fc2, gs, sc, cur, rfl, rfl, hbU, hbv, hgs, HGT, q1, q2, q3, hfc3, hfc4, hsc1, hsc2⟩ := hcut
      have oov : w5.heap.size < bv := by have := Mem.lt M7.1; omega
      have oos : w5.heap.size < gs := by have := Mem.lt M7.1; omega
      have oocv : w1.heap.size < bv := by have := Mem.lt M7.2.1; omega
      have oocs : w1.heap.size < gs := by have := Mem.lt M7.2.1; omega
      have ooav : w.heap.size < bv := by have := Mem.lt M7.2.2.1; omega
      have oofv : gf < bv := by have := Mem.lt M7.2.2.2.1; omega
      obtain ⟨w8, rfl⟩ : ∃ x, x = wc := ⟨_, rfl⟩
      have hB8 := below_then hB7 hbU
      have hw8 := hw7.below hbU
      have M8 : Mem w8 [(bv, .cells (th ((exV g fc2 gs sc))) 39), (w5.heap.size, .cells (th ((exU gf fc))) 39), (w1.heap.size, .cells #[.slice (ptA gf) 1 fc, .slice none 0 0, .slice none 0 0] 36), (w.heap.size, .cells #[.string ⟨#[1]⟩, .string ⟨#[]⟩] 24), (gf, .cells cf 104)] := ⟨hbv, M7.below hbU⟩
      clear z7_0 c7_1_0 c7_1_1 c7_1_2 z7_1 c7_2_0 c7_2_1 z7_2 z7_3
      have z8_0 := Mem.lt M8.1
      have z8_1 := Mem.lt M8.2.1
      have c8_2_0 := Mem.cell (v := .slice (ptA gf) 1 fc) M8.2.2.1 0 rfl
      have c8_2_1 := Mem.cell (v := .slice none 0 0) M8.2.2.1 1 rfl
      have c8_2_2 := Mem.cell (v := .slice none 0 0) M8.2.2.1 2 rfl
      have z8_2 := Mem.lt M8.2.2.1
      have c8_3_0 := Mem.cell (v := .string ⟨#[1]⟩) M8.2.2.2.1 0 rfl
      have c8_3_1 := Mem.cell (v := .string ⟨#[]⟩) M8.2.2.2.1 1 rfl
      have z8_3 := Mem.lt M8.2.2.2.1
      have z8_4 := Mem.lt M8.2.2.2.2.1
      replace M8 : Mem w8 [(bv, .cells (th ((exV g fc2 gs sc))) 39), (w5.heap.size, .cells (th ((exU gf fc))) 39), (w1.heap.size, .cells #[.slice (ptA gf) 1 fc, .slice none 0 0, .slice none 0 0] 36), (w.heap.size, .cells #[.string ⟨#[1]⟩, .string ⟨#[]⟩] 24), (gf, .cells cf 104), (gs, .cells cur 56)] := ⟨M8.1, M8.2.1, M8.2.2.1, M8.2.2.2.1, M8.2.2.2.2.1, hgs, trivial⟩
      have c8_0_6 := Mem.cell (v := .slice (exV g fc2 gs sc).fr.a (exV g fc2 gs sc).fr.n (exV g fc2 gs sc).fr.c) M8.1 6 rfl
      have c8_0_9 := Mem.cell (v := .slice (exV g fc2 gs sc).sc.a (exV g fc2 gs sc).sc.n (exV g fc2 gs sc).sc.c) M8.1 9 rfl
      go_upto_region 8 with (fail)
      go_cut [10, 11] (fun s10 s11 wx => ∃ b, s10 = .pointer (some ⟨b, 0, none⟩) ∧ s11 = .int .i64 (-7) ∧ Below w8.heap.size w8 wx)
      case first =>
        as_aux_lemma =>
          have hX := Lib.hid (Below.refl w8.heap.size w8)
          clear z8_0 z8_1 c8_2_0 c8_2_1 c8_2_2 z8_2 c8_3_0 c8_3_1 z8_3 z8_4 c8_0_6 c8_0_9
          refine wp_region_held (S := fun w' => Mem w' [(bv, .cells (th ((exV g fc2 gs sc))) 39), (w5.heap.size, .cells (th ((exU gf fc))) 39), (w1.heap.size, .cells #[.slice (ptA gf) 1 fc, .slice none 0 0, .slice none 0 0] 36), (w.heap.size, .cells #[.string ⟨#[1]⟩, .string ⟨#[]⟩] 24), (gf, .cells cf 104), (gs, .cells cur 56)]) (by kernel_rfl) ?_
          change wpAnyH _ _ _ _ _ 10 (Array.replicate 10 false) _ w8.drew
          refine anyH_named ?_
          intro w9 hW9
          have hB9 : Below w.heap.size w w9 := by rw [hW9]; exact below_dr hB8
          have hw9 : Laid w9 := by rw [hW9]; exact hw8.below (below_dr (Below.refl _ _))
          have M9 : Mem w9 [(bv, .cells (th ((exV g fc2 gs sc))) 39), (w5.heap.size, .cells (th ((exU gf fc))) 39), (w1.heap.size, .cells #[.slice (ptA gf) 1 fc, .slice none 0 0, .slice none 0 0] 36), (w.heap.size, .cells #[.string ⟨#[1]⟩, .string ⟨#[]⟩] 24), (gf, .cells cf 104), (gs, .cells cur 56)] := by rw [hW9]; exact Mem.drew M8
          have zz9 : w8.heap.size ≤ w9.heap.size := by rw [hW9]; exact Nat.le_refl _
          replace hX := hid_then hX (below_dr (Below.refl _ w8))
          rw [← hW9] at hX
          clear hW9
          have zh9_0 := Mem.lt M9.1
          have zh9_1 := Mem.lt M9.2.1
          have zh9_2 := Mem.lt M9.2.2.1
          have zh9_3 := Mem.lt M9.2.2.2.1
          have zh9_4 := Mem.lt M9.2.2.2.2.1
          have zh9_5 := Mem.lt M9.2.2.2.2.2.1
          refine wpAnyH_take (i := 0) (v := .agg (th ((exU gf fc)))) rfl (by decide +kernel) (by decide +kernel) (by decide +kernel) (fun _ _ _ h => h) (yieldsIf_load_mid (by rfl) 39 _ rfl (w5.heap.size) 0 (by rfl) (th ((exU gf fc))).toList _ (fun w hSw => range_block hSw.2.1) Tryz.underlying39 rfl info_th) M9 ?_
          try simp only [Act.put, List.getElem_toArray, List.getElem_cons_zero, List.setIfInBounds_toArray, List.set_cons_zero, List.set_cons_succ]
          refine wpAnyH_take (i := 2) (v := ?_) rfl (by decide +kernel) (by decide +kernel) (by decide +kernel) (fun _ _ _ h => h) (Or.inl ⟨by rfl, ?_⟩) M9 ?_
          rotate_left
          · intro w hSw
            have s_0 := Mem.cell (v := .string ⟨#[1]⟩) hSw.2.2.2.1 0 rfl
            have s_1 := Mem.cell (v := .string ⟨#[]⟩) hSw.2.2.2.1 1 rfl
            clear hSw
            go_simp; try (with_reducible rfl)
          try simp only [Act.put, List.getElem_toArray, List.getElem_cons_succ, List.getElem_cons_zero, List.setIfInBounds_toArray, List.set_cons_zero, List.set_cons_succ]
          refine wpAnyH_ready (rs := [1, 7]) (by decide +kernel) (by simp) (AllReadyH.cons rfl ?_ (AllReadyH.cons rfl ?_ AllReadyH.nil))
          · skip
            intro K hK
            rw [if_pos (by rfl)]
            go_simp
            go_at_call 10
            refine (number_any 7 _).mono ?_
            rintro e w10 ⟨rfl, hb10⟩
            have hB10 := below_then hB9 hb10
            have hw10 := hw9.below hb10
            have M10 := M9.below hb10
            replace hX := hid_then hX hb10
            have zz10 := hb10.size
            clear hb10
            refine hK.out _ _ M10 (fun _ => ?_)
            clear hK K
            try simp only [Act.put, List.getElem_toArray, List.getElem_cons_succ, List.getElem_cons_zero, List.setIfInBounds_toArray, List.set_cons_zero, List.set_cons_succ]
            refine wpAnyH_ready (rs := [3, 7]) (by decide +kernel) (by simp) (AllReadyH.cons rfl ?_ (AllReadyH.cons rfl ?_ AllReadyH.nil))
            · skip
              intro K hK
              rw [if_pos (by rfl)]
              go_simp
              go_at_call 9
              refine (ex_late gf fc _).mono ?_
              rintro e w11 ⟨rfl, hb11⟩
              have hB11 := below_then hB10 hb11
              have hw11 := hw10.below hb11
              have M11 := M10.below hb11
              replace hX := hid_then hX hb11
              have zz11 := hb11.size
              clear hb11
              refine hK.out _ _ M11 (fun _ => ?_)
              clear hK K
              try simp only [Act.put, List.getElem_toArray, List.getElem_cons_succ, List.getElem_cons_zero, List.setIfInBounds_toArray, List.set_cons_zero, List.set_cons_succ]
              refine wpAnyH_take (i := 4) (v := ?_) rfl (by decide +kernel) (by decide +kernel) (by decide +kernel) (fun _ _ _ h => h) (Or.inl ⟨by rfl, ?_⟩) M11 ?_
              rotate_left
              · intro w hSw
                clear hSw
                go_simp; try (with_reducible rfl)
              try simp only [Act.put, List.getElem_toArray, List.getElem_cons_succ, List.getElem_cons_zero, List.setIfInBounds_toArray, List.set_cons_zero, List.set_cons_succ]
              refine wpAnyH_take (i := 5) (v := ?_) rfl (by decide +kernel) (by decide +kernel) (by decide +kernel) (fun _ _ _ h => h) (Or.inl ⟨by rfl, ?_⟩) M11 ?_
              rotate_left
              · intro w hSw
                clear hSw
                go_simp; try (with_reducible rfl)
              try simp only [Act.put, List.getElem_toArray, List.getElem_cons_succ, List.getElem_cons_zero, List.setIfInBounds_toArray, List.set_cons_zero, List.set_cons_succ]
              refine wpAnyH_take (i := 6) (v := ?_) rfl (by decide +kernel) (by decide +kernel) (by decide +kernel) (fun _ _ _ h => h) (Or.inl ⟨by rfl, ?_⟩) M11 ?_
              rotate_left
              · intro w hSw
                clear hSw
                go_simp; try (with_reducible rfl)
              try simp only [Act.put, List.getElem_toArray, List.getElem_cons_succ, List.getElem_cons_zero, List.setIfInBounds_toArray, List.set_cons_zero, List.set_cons_succ]
              refine wpAnyH_ready (rs := [7]) (by decide +kernel) (by simp) (AllReadyH.cons rfl ?_ AllReadyH.nil)
              intro K hK
              rw [if_pos (by rfl)]
              go_simp
              have N12 : Mem (w11.alloc (.cells (th (th0)) 39)) [(w11.heap.size, .cells (th (th0)) 39), (bv, .cells (th ((exV g fc2 gs sc))) 39), (w5.heap.size, .cells (th ((exU gf fc))) 39), (w1.heap.size, .cells #[.slice (ptA gf) 1 fc, .slice none 0 0, .slice none 0 0] 36), (w.heap.size, .cells #[.string ⟨#[1]⟩, .string ⟨#[]⟩] 24), (gf, .cells cf 104), (gs, .cells cur 56)] := (M11).new' (w11.heap.size) (by rfl) (.cells (th (th0)) 39)
              refine hK.out _ _ ⟨N12.2.1, N12.2.2.1, N12.2.2.2.1, N12.2.2.2.2.1, N12.2.2.2.2.2.1, N12.2.2.2.2.2.2.1, trivial⟩ (fun _ => ?_)
              clear hK K
              try simp only [Act.put, List.getElem_toArray, List.getElem_cons_succ, List.getElem_cons_zero, List.setIfInBounds_toArray, List.set_cons_zero, List.set_cons_succ]
              refine anyH_named ?_
              intro w12 hW12
              have hB12 : Below w.heap.size w w12 := by rw [hW12]; exact below_al hB11 _
              have hw12 : Laid w12 := by rw [hW12]; exact hw11.alloc _
              have M12 : Mem w12 [(w11.heap.size, .cells (th (th0)) 39), (bv, .cells (th ((exV g fc2 gs sc))) 39), (w5.heap.size, .cells (th ((exU gf fc))) 39), (w1.heap.size, .cells #[.slice (ptA gf) 1 fc, .slice none 0 0, .slice none 0 0] 36), (w.heap.size, .cells #[.string ⟨#[1]⟩, .string ⟨#[]⟩] 24), (gf, .cells cf 104), (gs, .cells cur 56)] := by rw [hW12]; exact N12
              replace hX := hid_then hX (below_al (Below.refl _ w11) (.cells (th (th0)) 39))
              rw [show w11.alloc (.cells (th (th0)) 39) = w12 from hW12.symm] at hX
              clear hW12 N12
              have zz12 : w11.heap.size < w12.heap.size := Mem.lt M12.1
              refine wpAnyH_ready (rs := [8]) (by decide +kernel) (by simp) (AllReadyH.cons rfl ?_ AllReadyH.nil)
              intro K hK
              rw [if_pos (by rfl)]
              refine wp_store_mid 39 _ _ rfl (w11.heap.size) 0 (th ((exU gf fc))) (by rfl) (by rfl) (there_block M12.1 (Nat.le_refl 20)) info_th (one_th _) ?_
              have N13 : Mem (w12.setCells (w11.heap.size) 0 (th ((exU gf fc))).toList) [(w11.heap.size, .cells (th ((exU gf fc))) 39), (bv, .cells (th ((exV g fc2 gs sc))) 39), (w5.heap.size, .cells (th ((exU gf fc))) 39), (w1.heap.size, .cells #[.slice (ptA gf) 1 fc, .slice none 0 0, .slice none 0 0] 36), (w.heap.size, .cells #[.string ⟨#[1]⟩, .string ⟨#[]⟩] 24), (gf, .cells cf 104), (gs, .cells cur 56)] := ⟨set_th M12.1 _, (setCells_other _ 0 _ _ (by omega)).trans M12.2.1, (setCells_other _ 0 _ _ (by omega)).trans M12.2.2.1, (setCells_other _ 0 _ _ (by omega)).trans M12.2.2.2.1, (setCells_other _ 0 _ _ (by omega)).trans M12.2.2.2.2.1, (setCells_other _ 0 _ _ (by omega)).trans M12.2.2.2.2.2.1, (setCells_other _ 0 _ _ (by omega)).trans M12.2.2.2.2.2.2.1, trivial⟩
              refine hK.out _ _ ⟨N13.2.1, N13.2.2.1, N13.2.2.2.1, N13.2.2.2.2.1, N13.2.2.2.2.2.1, N13.2.2.2.2.2.2.1, trivial⟩ (fun _ => ?_)
              clear hK K
              try simp only [Act.put, List.getElem_toArray, List.getElem_cons_succ, List.getElem_cons_zero]
              refine anyH_named ?_
              intro w13 hW13
              have hB13 : Below w.heap.size w w13 := by rw [hW13]; exact below_setCells (B := w.heap.size) hB12 (b := w11.heap.size) (by have := hB12.size; omega) 0 _
              have hw13 : Laid w13 := hw0.below hB13
              have M13 : Mem w13 [(w11.heap.size, .cells (th ((exU gf fc))) 39), (bv, .cells (th ((exV g fc2 gs sc))) 39), (w5.heap.size, .cells (th ((exU gf fc))) 39), (w1.heap.size, .cells #[.slice (ptA gf) 1 fc, .slice none 0 0, .slice none 0 0] 36), (w.heap.size, .cells #[.string ⟨#[1]⟩, .string ⟨#[]⟩] 24), (gf, .cells cf 104), (gs, .cells cur 56)] := by rw [hW13]; exact N13
              have hY := below_setCells hX.out (b := w11.heap.size) (by omega) 0 (th ((exU gf fc))).toList
              rw [show w12.setCells (w11.heap.size) 0 (th ((exU gf fc))).toList = w13 from hW13.symm] at hY
              clear hW13 N13
              refine wpAnyH_take (i := 9) (v := ?_) rfl (by decide +kernel) (by decide +kernel) (by decide +kernel) (fun _ _ _ h => h) (Or.inl ⟨by rfl, ?_⟩) ⟨M13.2.1, M13.2.2.1, M13.2.2.2.1, M13.2.2.2.2.1, M13.2.2.2.2.2.1, M13.2.2.2.2.2.2.1, trivial⟩ ?_
              rotate_left
              · intro w hSw
                clear hSw
                go_simp; try (with_reducible rfl)
              try simp only [Act.put, List.getElem_toArray, List.getElem_cons_succ, List.getElem_cons_zero, List.setIfInBounds_toArray, List.set_cons_zero, List.set_cons_succ]
              refine wpAnyH_done (by kernel_rfl) ?_ _
              have z13_0 := Mem.lt M13.1
              have z13_1 := Mem.lt M13.2.1
              have z13_2 := Mem.lt M13.2.2.1
              have c13_3_0 := Mem.cell (v := .slice (ptA gf) 1 fc) M13.2.2.2.1 0 rfl
              have c13_3_1 := Mem.cell (v := .slice none 0 0) M13.2.2.2.1 1 rfl
              have c13_3_2 := Mem.cell (v := .slice none 0 0) M13.2.2.2.1 2 rfl
              have z13_3 := Mem.lt M13.2.2.2.1
              have c13_4_0 := Mem.cell (v := .string ⟨#[1]⟩) M13.2.2.2.2.1 0 rfl
              have c13_4_1 := Mem.cell (v := .string ⟨#[]⟩) M13.2.2.2.2.1 1 rfl
              have z13_4 := Mem.lt M13.2.2.2.2.1
              have z13_5 := Mem.lt M13.2.2.2.2.2.1
              have z13_6 := Mem.lt M13.2.2.2.2.2.2.1
              go_wp2_with fail
              go_meet
              exact ⟨_, rfl, rfl, hY⟩
            · skip
              intro K hK
              rw [if_pos (by rfl)]
              go_simp
              have N11 : Mem (w10.alloc (.cells (th (th0)) 39)) [(w10.heap.size, .cells (th (th0)) 39), (bv, .cells (th ((exV g fc2 gs sc))) 39), (w5.heap.size, .cells (th ((exU gf fc))) 39), (w1.heap.size, .cells #[.slice (ptA gf) 1 fc, .slice none 0 0, .slice none 0 0] 36), (w.heap.size, .cells #[.string ⟨#[1]⟩, .string ⟨#[]⟩] 24), (gf, .cells cf 104), (gs, .cells cur 56)] := (M10).new' (w10.heap.size) (by rfl) (.cells (th (th0)) 39)
              refine hK.out _ _ ⟨N11.2.1, N11.2.2.1, N11.2.2.2.1, N11.2.2.2.2.1, N11.2.2.2.2.2.1, N11.2.2.2.2.2.2.1, trivial⟩ (fun _ => ?_)
              clear hK K
              try simp only [Act.put, List.getElem_toArray, List.getElem_cons_succ, List.getElem_cons_zero, List.setIfInBounds_toArray, List.set_cons_zero, List.set_cons_succ]
              refine anyH_named ?_
              intro w11 hW11
              have hB11 : Below w.heap.size w w11 := by rw [hW11]; exact below_al hB10 _
              have hw11 : Laid w11 := by rw [hW11]; exact hw10.alloc _
              have M11 : Mem w11 [(w10.heap.size, .cells (th (th0)) 39), (bv, .cells (th ((exV g fc2 gs sc))) 39), (w5.heap.size, .cells (th ((exU gf fc))) 39), (w1.heap.size, .cells #[.slice (ptA gf) 1 fc, .slice none 0 0, .slice none 0 0] 36), (w.heap.size, .cells #[.string ⟨#[1]⟩, .string ⟨#[]⟩] 24), (gf, .cells cf 104), (gs, .cells cur 56)] := by rw [hW11]; exact N11
              replace hX := hid_then hX (below_al (Below.refl _ w10) (.cells (th (th0)) 39))
              rw [show w10.alloc (.cells (th (th0)) 39) = w11 from hW11.symm] at hX
              clear hW11 N11
              have zz11 : w10.heap.size < w11.heap.size := Mem.lt M11.1
              refine wpAnyH_ready (rs := [3]) (by decide +kernel) (by simp) (AllReadyH.cons rfl ?_ AllReadyH.nil)
              intro K hK
              rw [if_pos (by rfl)]
              go_simp
              go_at_call 9
              refine (ex_late gf fc _).mono ?_
              rintro e w12 ⟨rfl, hb12⟩
              have hB12 := below_then hB11 hb12
              have hw12 := hw11.below hb12
              have M12 := M11.below hb12
              replace hX := hid_then hX hb12
              have zz12 := hb12.size
              clear hb12
              refine hK.out _ _ ⟨M12.2.1, M12.2.2.1, M12.2.2.2.1, M12.2.2.2.2.1, M12.2.2.2.2.2.1, M12.2.2.2.2.2.2.1, trivial⟩ (fun _ => ?_)
              clear hK K
              try simp only [Act.put, List.getElem_toArray, List.getElem_cons_succ, List.getElem_cons_zero, List.setIfInBounds_toArray, List.set_cons_zero, List.set_cons_succ]
              refine wpAnyH_take (i := 4) (v := ?_) rfl (by decide +kernel) (by decide +kernel) (by decide +kernel) (fun _ _ _ h => h) (Or.inl ⟨by rfl, ?_⟩) ⟨M12.2.1, M12.2.2.1, M12.2.2.2.1, M12.2.2.2.2.1, M12.2.2.2.2.2.1, M12.2.2.2.2.2.2.1, trivial⟩ ?_
              rotate_left
              · intro w hSw
                clear hSw
                go_simp; try (with_reducible rfl)
              try simp only [Act.put, List.getElem_toArray, List.getElem_cons_succ, List.getElem_cons_zero, List.setIfInBounds_toArray, List.set_cons_zero, List.set_cons_succ]
              refine wpAnyH_take (i := 5) (v := ?_) rfl (by decide +kernel) (by decide +kernel) (by decide +kernel) (fun _ _ _ h => h) (Or.inl ⟨by rfl, ?_⟩) ⟨M12.2.1, M12.2.2.1, M12.2.2.2.1, M12.2.2.2.2.1, M12.2.2.2.2.2.1, M12.2.2.2.2.2.2.1, trivial⟩ ?_
              rotate_left
              · intro w hSw
                clear hSw
                go_simp; try (with_reducible rfl)
              try simp only [Act.put, List.getElem_toArray, List.getElem_cons_succ, List.getElem_cons_zero, List.setIfInBounds_toArray, List.set_cons_zero, List.set_cons_succ]
              refine wpAnyH_take (i := 6) (v := ?_) rfl (by decide +kernel) (by decide +kernel) (by decide +kernel) (fun _ _ _ h => h) (Or.inl ⟨by rfl, ?_⟩) ⟨M12.2.1, M12.2.2.1, M12.2.2.2.1, M12.2.2.2.2.1, M12.2.2.2.2.2.1, M12.2.2.2.2.2.2.1, trivial⟩ ?_
              rotate_left
              · intro w hSw
                clear hSw
                go_simp; try (with_reducible rfl)
              try simp only [Act.put, List.getElem_toArray, List.getElem_cons_succ, List.getElem_cons_zero, List.setIfInBounds_toArray, List.set_cons_zero, List.set_cons_succ]
              refine wpAnyH_ready (rs := [8]) (by decide +kernel) (by simp) (AllReadyH.cons rfl ?_ AllReadyH.nil)
              intro K hK
              rw [if_pos (by rfl)]
              refine wp_store_mid 39 _ _ rfl (w10.heap.size) 0 (th ((exU gf fc))) (by rfl) (by rfl) (there_block M12.1 (Nat.le_refl 20)) info_th (one_th _) ?_
              have N13 : Mem (w12.setCells (w10.heap.size) 0 (th ((exU gf fc))).toList) [(w10.heap.size, .cells (th ((exU gf fc))) 39), (bv, .cells (th ((exV g fc2 gs sc))) 39), (w5.heap.size, .cells (th ((exU gf fc))) 39), (w1.heap.size, .cells #[.slice (ptA gf) 1 fc, .slice none 0 0, .slice none 0 0] 36), (w.heap.size, .cells #[.string ⟨#[1]⟩, .string ⟨#[]⟩] 24), (gf, .cells cf 104), (gs, .cells cur 56)] := ⟨set_th M12.1 _, (setCells_other _ 0 _ _ (by omega)).trans M12.2.1, (setCells_other _ 0 _ _ (by omega)).trans M12.2.2.1, (setCells_other _ 0 _ _ (by omega)).trans M12.2.2.2.1, (setCells_other _ 0 _ _ (by omega)).trans M12.2.2.2.2.1, (setCells_other _ 0 _ _ (by omega)).trans M12.2.2.2.2.2.1, (setCells_other _ 0 _ _ (by omega)).trans M12.2.2.2.2.2.2.1, trivial⟩
              refine hK.out _ _ ⟨N13.2.1, N13.2.2.1, N13.2.2.2.1, N13.2.2.2.2.1, N13.2.2.2.2.2.1, N13.2.2.2.2.2.2.1, trivial⟩ (fun _ => ?_)
              clear hK K
              try simp only [Act.put, List.getElem_toArray, List.getElem_cons_succ, List.getElem_cons_zero]
              refine anyH_named ?_
              intro w13 hW13
              have hB13 : Below w.heap.size w w13 := by rw [hW13]; exact below_setCells (B := w.heap.size) hB12 (b := w10.heap.size) (by have := hB12.size; omega) 0 _
              have hw13 : Laid w13 := hw0.below hB13
              have M13 : Mem w13 [(w10.heap.size, .cells (th ((exU gf fc))) 39), (bv, .cells (th ((exV g fc2 gs sc))) 39), (w5.heap.size, .cells (th ((exU gf fc))) 39), (w1.heap.size, .cells #[.slice (ptA gf) 1 fc, .slice none 0 0, .slice none 0 0] 36), (w.heap.size, .cells #[.string ⟨#[1]⟩, .string ⟨#[]⟩] 24), (gf, .cells cf 104), (gs, .cells cur 56)] := by rw [hW13]; exact N13
              have hY := below_setCells hX.out (b := w10.heap.size) (by omega) 0 (th ((exU gf fc))).toList
              rw [show w12.setCells (w10.heap.size) 0 (th ((exU gf fc))).toList = w13 from hW13.symm] at hY
              clear hW13 N13
              refine wpAnyH_take (i := 9) (v := ?_) rfl (by decide +kernel) (by decide +kernel) (by decide +kernel) (fun _ _ _ h => h) (Or.inl ⟨by rfl, ?_⟩) ⟨M13.2.1, M13.2.2.1, M13.2.2.2.1, M13.2.2.2.2.1, M13.2.2.2.2.2.1, M13.2.2.2.2.2.2.1, trivial⟩ ?_
              rotate_left
              · intro w hSw
                clear hSw
                go_simp; try (with_reducible rfl)
              try simp only [Act.put, List.getElem_toArray, List.getElem_cons_succ, List.getElem_cons_zero, List.setIfInBounds_toArray, List.set_cons_zero, List.set_cons_succ]
              refine wpAnyH_done (by kernel_rfl) ?_ _
              have z13_0 := Mem.lt M13.1
              have z13_1 := Mem.lt M13.2.1
              have z13_2 := Mem.lt M13.2.2.1
              have c13_3_0 := Mem.cell (v := .slice (ptA gf) 1 fc) M13.2.2.2.1 0 rfl
              have c13_3_1 := Mem.cell (v := .slice none 0 0) M13.2.2.2.1 1 rfl
              have c13_3_2 := Mem.cell (v := .slice none 0 0) M13.2.2.2.1 2 rfl
              have z13_3 := Mem.lt M13.2.2.2.1
              have c13_4_0 := Mem.cell (v := .string ⟨#[1]⟩) M13.2.2.2.2.1 0 rfl
              have c13_4_1 := Mem.cell (v := .string ⟨#[]⟩) M13.2.2.2.2.1 1 rfl
              have z13_4 := Mem.lt M13.2.2.2.2.1
              have z13_5 := Mem.lt M13.2.2.2.2.2.1
              have z13_6 := Mem.lt M13.2.2.2.2.2.2.1
              go_wp2_with fail
              go_meet
              exact ⟨_, rfl, rfl, hY⟩
          · skip
            intro K hK
            rw [if_pos (by rfl)]
            go_simp
            have N10 : Mem (w9.alloc (.cells (th (th0)) 39)) [(w9.heap.size, .cells (th (th0)) 39), (bv, .cells (th ((exV g fc2 gs sc))) 39), (w5.heap.size, .cells (th ((exU gf fc))) 39), (w1.heap.size, .cells #[.slice (ptA gf) 1 fc, .slice none 0 0, .slice none 0 0] 36), (w.heap.size, .cells #[.string ⟨#[1]⟩, .string ⟨#[]⟩] 24), (gf, .cells cf 104), (gs, .cells cur 56)] := (M9).new' (w9.heap.size) (by rfl) (.cells (th (th0)) 39)
            refine hK.out _ _ ⟨N10.2.1, N10.2.2.1, N10.2.2.2.1, N10.2.2.2.2.1, N10.2.2.2.2.2.1, N10.2.2.2.2.2.2.1, trivial⟩ (fun _ => ?_)
            clear hK K
            try simp only [Act.put, List.getElem_toArray, List.getElem_cons_succ, List.getElem_cons_zero, List.setIfInBounds_toArray, List.set_cons_zero, List.set_cons_succ]
            refine anyH_named ?_
            intro w10 hW10
            have hB10 : Below w.heap.size w w10 := by rw [hW10]; exact below_al hB9 _
            have hw10 : Laid w10 := by rw [hW10]; exact hw9.alloc _
            have M10 : Mem w10 [(w9.heap.size, .cells (th (th0)) 39), (bv, .cells (th ((exV g fc2 gs sc))) 39), (w5.heap.size, .cells (th ((exU gf fc))) 39), (w1.heap.size, .cells #[.slice (ptA gf) 1 fc, .slice none 0 0, .slice none 0 0] 36), (w.heap.size, .cells #[.string ⟨#[1]⟩, .string ⟨#[]⟩] 24), (gf, .cells cf 104), (gs, .cells cur 56)] := by rw [hW10]; exact N10
            replace hX := hid_then hX (below_al (Below.refl _ w9) (.cells (th (th0)) 39))
            rw [show w9.alloc (.cells (th (th0)) 39) = w10 from hW10.symm] at hX
            clear hW10 N10
            have zz10 : w9.heap.size < w10.heap.size := Mem.lt M10.1
            refine wpAnyH_ready (rs := [1]) (by decide +kernel) (by simp) (AllReadyH.cons rfl ?_ AllReadyH.nil)
            intro K hK
            rw [if_pos (by rfl)]
            go_simp
            go_at_call 10
            refine (number_any 7 _).mono ?_
            rintro e w11 ⟨rfl, hb11⟩
            have hB11 := below_then hB10 hb11
            have hw11 := hw10.below hb11
            have M11 := M10.below hb11
            replace hX := hid_then hX hb11
            have zz11 := hb11.size
            clear hb11
            refine hK.out _ _ ⟨M11.2.1, M11.2.2.1, M11.2.2.2.1, M11.2.2.2.2.1, M11.2.2.2.2.2.1, M11.2.2.2.2.2.2.1, trivial⟩ (fun _ => ?_)
            clear hK K
            try simp only [Act.put, List.getElem_toArray, List.getElem_cons_succ, List.getElem_cons_zero, List.setIfInBounds_toArray, List.set_cons_zero, List.set_cons_succ]
            refine wpAnyH_ready (rs := [3]) (by decide +kernel) (by simp) (AllReadyH.cons rfl ?_ AllReadyH.nil)
            intro K hK
            rw [if_pos (by rfl)]
            go_simp
            go_at_call 9
            refine (ex_late gf fc _).mono ?_
            rintro e w12 ⟨rfl, hb12⟩
            have hB12 := below_then hB11 hb12
            have hw12 := hw11.below hb12
            have M12 := M11.below hb12
            replace hX := hid_then hX hb12
            have zz12 := hb12.size
            clear hb12
            refine hK.out _ _ ⟨M12.2.1, M12.2.2.1, M12.2.2.2.1, M12.2.2.2.2.1, M12.2.2.2.2.2.1, M12.2.2.2.2.2.2.1, trivial⟩ (fun _ => ?_)
            clear hK K
            try simp only [Act.put, List.getElem_toArray, List.getElem_cons_succ, List.getElem_cons_zero, List.setIfInBounds_toArray, List.set_cons_zero, List.set_cons_succ]
            refine wpAnyH_take (i := 4) (v := ?_) rfl (by decide +kernel) (by decide +kernel) (by decide +kernel) (fun _ _ _ h => h) (Or.inl ⟨by rfl, ?_⟩) ⟨M12.2.1, M12.2.2.1, M12.2.2.2.1, M12.2.2.2.2.1, M12.2.2.2.2.2.1, M12.2.2.2.2.2.2.1, trivial⟩ ?_
            rotate_left
            · intro w hSw
              clear hSw
              go_simp; try (with_reducible rfl)
            try simp only [Act.put, List.getElem_toArray, List.getElem_cons_succ, List.getElem_cons_zero, List.setIfInBounds_toArray, List.set_cons_zero, List.set_cons_succ]
            refine wpAnyH_take (i := 5) (v := ?_) rfl (by decide +kernel) (by decide +kernel) (by decide +kernel) (fun _ _ _ h => h) (Or.inl ⟨by rfl, ?_⟩) ⟨M12.2.1, M12.2.2.1, M12.2.2.2.1, M12.2.2.2.2.1, M12.2.2.2.2.2.1, M12.2.2.2.2.2.2.1, trivial⟩ ?_
            rotate_left
            · intro w hSw
              clear hSw
              go_simp; try (with_reducible rfl)
            try simp only [Act.put, List.getElem_toArray, List.getElem_cons_succ, List.getElem_cons_zero, List.setIfInBounds_toArray, List.set_cons_zero, List.set_cons_succ]
            refine wpAnyH_take (i := 6) (v := ?_) rfl (by decide +kernel) (by decide +kernel) (by decide +kernel) (fun _ _ _ h => h) (Or.inl ⟨by rfl, ?_⟩) ⟨M12.2.1, M12.2.2.1, M12.2.2.2.1, M12.2.2.2.2.1, M12.2.2.2.2.2.1, M12.2.2.2.2.2.2.1, trivial⟩ ?_
            rotate_left
            · intro w hSw
              clear hSw
              go_simp; try (with_reducible rfl)
            try simp only [Act.put, List.getElem_toArray, List.getElem_cons_succ, List.getElem_cons_zero, List.setIfInBounds_toArray, List.set_cons_zero, List.set_cons_succ]
            refine wpAnyH_ready (rs := [8]) (by decide +kernel) (by simp) (AllReadyH.cons rfl ?_ AllReadyH.nil)
            intro K hK
            rw [if_pos (by rfl)]
            refine wp_store_mid 39 _ _ rfl (w9.heap.size) 0 (th ((exU gf fc))) (by rfl) (by rfl) (there_block M12.1 (Nat.le_refl 20)) info_th (one_th _) ?_
            have N13 : Mem (w12.setCells (w9.heap.size) 0 (th ((exU gf fc))).toList) [(w9.heap.size, .cells (th ((exU gf fc))) 39), (bv, .cells (th ((exV g fc2 gs sc))) 39), (w5.heap.size, .cells (th ((exU gf fc))) 39), (w1.heap.size, .cells #[.slice (ptA gf) 1 fc, .slice none 0 0, .slice none 0 0] 36), (w.heap.size, .cells #[.string ⟨#[1]⟩, .string ⟨#[]⟩] 24), (gf, .cells cf 104), (gs, .cells cur 56)] := ⟨set_th M12.1 _, (setCells_other _ 0 _ _ (by omega)).trans M12.2.1, (setCells_other _ 0 _ _ (by omega)).trans M12.2.2.1, (setCells_other _ 0 _ _ (by omega)).trans M12.2.2.2.1, (setCells_other _ 0 _ _ (by omega)).trans M12.2.2.2.2.1, (setCells_other _ 0 _ _ (by omega)).trans M12.2.2.2.2.2.1, (setCells_other _ 0 _ _ (by omega)).trans M12.2.2.2.2.2.2.1, trivial⟩
            refine hK.out _ _ ⟨N13.2.1, N13.2.2.1, N13.2.2.2.1, N13.2.2.2.2.1, N13.2.2.2.2.2.1, N13.2.2.2.2.2.2.1, trivial⟩ (fun _ => ?_)
            clear hK K
            try simp only [Act.put, List.getElem_toArray, List.getElem_cons_succ, List.getElem_cons_zero]
            refine anyH_named ?_
            intro w13 hW13
            have hB13 : Below w.heap.size w w13 := by rw [hW13]; exact below_setCells (B := w.heap.size) hB12 (b := w9.heap.size) (by have := hB12.size; omega) 0 _
            have hw13 : Laid w13 := hw0.below hB13
            have M13 : Mem w13 [(w9.heap.size, .cells (th ((exU gf fc))) 39), (bv, .cells (th ((exV g fc2 gs sc))) 39), (w5.heap.size, .cells (th ((exU gf fc))) 39), (w1.heap.size, .cells #[.slice (ptA gf) 1 fc, .slice none 0 0, .slice none 0 0] 36), (w.heap.size, .cells #[.string ⟨#[1]⟩, .string ⟨#[]⟩] 24), (gf, .cells cf 104), (gs, .cells cur 56)] := by rw [hW13]; exact N13
            have hY := below_setCells hX.out (b := w9.heap.size) (by omega) 0 (th ((exU gf fc))).toList
            rw [show w12.setCells (w9.heap.size) 0 (th ((exU gf fc))).toList = w13 from hW13.symm] at hY
            clear hW13 N13
            refine wpAnyH_take (i := 9) (v := ?_) rfl (by decide +kernel) (by decide +kernel) (by decide +kernel) (fun _ _ _ h => h) (Or.inl ⟨by rfl, ?_⟩) ⟨M13.2.1, M13.2.2.1, M13.2.2.2.1, M13.2.2.2.2.1, M13.2.2.2.2.2.1, M13.2.2.2.2.2.2.1, trivial⟩ ?_
            rotate_left
            · intro w hSw
              clear hSw
              go_simp; try (with_reducible rfl)
            try simp only [Act.put, List.getElem_toArray, List.getElem_cons_succ, List.getElem_cons_zero, List.setIfInBounds_toArray, List.set_cons_zero, List.set_cons_succ]
            refine wpAnyH_done (by kernel_rfl) ?_ _
            have z13_0 := Mem.lt M13.1
            have z13_1 := Mem.lt M13.2.1
            have z13_2 := Mem.lt M13.2.2.1
            have c13_3_0 := Mem.cell (v := .slice (ptA gf) 1 fc) M13.2.2.2.1 0 rfl
            have c13_3_1 := Mem.cell (v := .slice none 0 0) M13.2.2.2.1 1 rfl
            have c13_3_2 := Mem.cell (v := .slice none 0 0) M13.2.2.2.1 2 rfl
            have z13_3 := Mem.lt M13.2.2.2.1
            have c13_4_0 := Mem.cell (v := .string ⟨#[1]⟩) M13.2.2.2.2.1 0 rfl
            have c13_4_1 := Mem.cell (v := .string ⟨#[]⟩) M13.2.2.2.2.1 1 rfl
            have z13_4 := Mem.lt M13.2.2.2.2.1
            have z13_5 := Mem.lt M13.2.2.2.2.2.1
            have z13_6 := Mem.lt M13.2.2.2.2.2.2.1
            go_wp2_with fail
            go_meet
            exact ⟨_, rfl, rfl, hY⟩
      case rest =>
        as_aux_lemma =>

          obtain ⟨b8, rfl, rfl, hb8⟩ := hcut
          obtain ⟨w9, rfl⟩ : ∃ x, x = wc := ⟨_, rfl⟩
          have hB9 := below_then hB8 hb8
          have hw9 := hw8.below hb8
          have M9 := M8.below hb8
          clear z8_0 z8_1 c8_2_0 c8_2_1 c8_2_2 z8_2 c8_3_0 c8_3_1 z8_3 z8_4 c8_0_6 c8_0_9
          have z9_0 := Mem.lt M9.1
          have z9_1 := Mem.lt M9.2.1
          have c9_2_0 := Mem.cell (v := .slice (ptA gf) 1 fc) M9.2.2.1 0 rfl
          have c9_2_1 := Mem.cell (v := .slice none 0 0) M9.2.2.1 1 rfl
          have c9_2_2 := Mem.cell (v := .slice none 0 0) M9.2.2.1 2 rfl
          have z9_2 := Mem.lt M9.2.2.1
          have c9_3_0 := Mem.cell (v := .string ⟨#[1]⟩) M9.2.2.2.1 0 rfl
          have c9_3_1 := Mem.cell (v := .string ⟨#[]⟩) M9.2.2.2.1 1 rfl
          have z9_3 := Mem.lt M9.2.2.2.1
          have z9_4 := Mem.lt M9.2.2.2.2.1
          have z9_5 := Mem.lt M9.2.2.2.2.2.1
          go_upto_region 9 with (fail)
          go_cut [12, 13] (fun s12 s13 wx => ∃ b, s12 = .pointer (some ⟨b, 0, none⟩) ∧ s13 = .int .i64 (-5) ∧ Below w9.heap.size w9 wx)
          case first =>
            as_aux_lemma =>
              have hX := Lib.hid (Below.refl w9.heap.size w9)
              clear z9_0 z9_1 c9_2_0 c9_2_1 c9_2_2 z9_2 c9_3_0 c9_3_1 z9_3 z9_4 z9_5
              refine wp_region_held (S := fun w' => Mem w' [(bv, .cells (th ((exV g fc2 gs sc))) 39), (w5.heap.size, .cells (th ((exU gf fc))) 39), (w1.heap.size, .cells #[.slice (ptA gf) 1 fc, .slice none 0 0, .slice none 0 0] 36), (w.heap.size, .cells #[.string ⟨#[1]⟩, .string ⟨#[]⟩] 24), (gf, .cells cf 104), (gs, .cells cur 56)]) (by kernel_rfl) ?_
              change wpAnyH _ _ _ _ _ 10 (Array.replicate 10 false) _ w9.drew
              refine anyH_named ?_
              intro w10 hW10
              have hB10 : Below w.heap.size w w10 := by rw [hW10]; exact below_dr hB9
              have hw10 : Laid w10 := by rw [hW10]; exact hw9.below (below_dr (Below.refl _ _))
              have M10 : Mem w10 [(bv, .cells (th ((exV g fc2 gs sc))) 39), (w5.heap.size, .cells (th ((exU gf fc))) 39), (w1.heap.size, .cells #[.slice (ptA gf) 1 fc, .slice none 0 0, .slice none 0 0] 36), (w.heap.size, .cells #[.string ⟨#[1]⟩, .string ⟨#[]⟩] 24), (gf, .cells cf 104), (gs, .cells cur 56)] := by rw [hW10]; exact Mem.drew M9
              have zz10 : w9.heap.size ≤ w10.heap.size := by rw [hW10]; exact Nat.le_refl _
              replace hX := hid_then hX (below_dr (Below.refl _ w9))
              rw [← hW10] at hX
              clear hW10
              have zh10_0 := Mem.lt M10.1
              have zh10_1 := Mem.lt M10.2.1
              have zh10_2 := Mem.lt M10.2.2.1
              have zh10_3 := Mem.lt M10.2.2.2.1
              have zh10_4 := Mem.lt M10.2.2.2.2.1
              have zh10_5 := Mem.lt M10.2.2.2.2.2.1
              refine wpAnyH_take (i := 0) (v := .agg (th ((exU gf fc)))) rfl (by decide +kernel) (by decide +kernel) (by decide +kernel) (fun _ _ _ h => h) (yieldsIf_load_mid (by rfl) 39 _ rfl (w5.heap.size) 0 (by rfl) (th ((exU gf fc))).toList _ (fun w hSw => range_block hSw.2.1) Tryz.underlying39 rfl info_th) M10 ?_
              try simp only [Act.put, List.getElem_toArray, List.getElem_cons_zero, List.setIfInBounds_toArray, List.set_cons_zero, List.set_cons_succ]
              refine wpAnyH_take (i := 2) (v := ?_) rfl (by decide +kernel) (by decide +kernel) (by decide +kernel) (fun _ _ _ h => h) (Or.inl ⟨by rfl, ?_⟩) M10 ?_
              rotate_left
              · intro w hSw
                have s_0 := Mem.cell (v := .string ⟨#[1]⟩) hSw.2.2.2.1 0 rfl
                have s_1 := Mem.cell (v := .string ⟨#[]⟩) hSw.2.2.2.1 1 rfl
                clear hSw
                go_simp; try (with_reducible rfl)
              try simp only [Act.put, List.getElem_toArray, List.getElem_cons_succ, List.getElem_cons_zero, List.setIfInBounds_toArray, List.set_cons_zero, List.set_cons_succ]
              refine wpAnyH_ready (rs := [1, 7]) (by decide +kernel) (by simp) (AllReadyH.cons rfl ?_ (AllReadyH.cons rfl ?_ AllReadyH.nil))
              · skip
                intro K hK
                rw [if_pos (by rfl)]
                go_simp
                go_at_call 10
                refine (number_any 7 _).mono ?_
                rintro e w11 ⟨rfl, hb11⟩
                have hB11 := below_then hB10 hb11
                have hw11 := hw10.below hb11
                have M11 := M10.below hb11
                replace hX := hid_then hX hb11
                have zz11 := hb11.size
                clear hb11
                refine hK.out _ _ M11 (fun _ => ?_)
                clear hK K
                try simp only [Act.put, List.getElem_toArray, List.getElem_cons_succ, List.getElem_cons_zero, List.setIfInBounds_toArray, List.set_cons_zero, List.set_cons_succ]
                refine wpAnyH_ready (rs := [3, 7]) (by decide +kernel) (by simp) (AllReadyH.cons rfl ?_ (AllReadyH.cons rfl ?_ AllReadyH.nil))
                · skip
                  intro K hK
                  rw [if_pos (by rfl)]
                  go_simp
                  go_at_call 9
                  refine (ex_room gf fc _ hw11).mono ?_
                  rintro e w12 ⟨rfl, hb12⟩
                  have hB12 := below_then hB11 hb12
                  have hw12 := hw11.below hb12
                  have M12 := M11.below hb12
                  replace hX := hid_then hX hb12
                  have zz12 := hb12.size
                  clear hb12
                  refine hK.out _ _ M12 (fun _ => ?_)
                  clear hK K
                  try simp only [Act.put, List.getElem_toArray, List.getElem_cons_succ, List.getElem_cons_zero, List.setIfInBounds_toArray, List.set_cons_zero, List.set_cons_succ]
                  refine wpAnyH_take (i := 4) (v := ?_) rfl (by decide +kernel) (by decide +kernel) (by decide +kernel) (fun _ _ _ h => h) (Or.inl ⟨by rfl, ?_⟩) M12 ?_
                  rotate_left
                  · intro w hSw
                    clear hSw
                    go_simp; try (with_reducible rfl)
                  try simp only [Act.put, List.getElem_toArray, List.getElem_cons_succ, List.getElem_cons_zero, List.setIfInBounds_toArray, List.set_cons_zero, List.set_cons_succ]
                  refine wpAnyH_take (i := 5) (v := ?_) rfl (by decide +kernel) (by decide +kernel) (by decide +kernel) (fun _ _ _ h => h) (Or.inl ⟨by rfl, ?_⟩) M12 ?_
                  rotate_left
                  · intro w hSw
                    clear hSw
                    go_simp; try (with_reducible rfl)
                  try simp only [Act.put, List.getElem_toArray, List.getElem_cons_succ, List.getElem_cons_zero, List.setIfInBounds_toArray, List.set_cons_zero, List.set_cons_succ]
                  refine wpAnyH_take (i := 6) (v := ?_) rfl (by decide +kernel) (by decide +kernel) (by decide +kernel) (fun _ _ _ h => h) (Or.inl ⟨by rfl, ?_⟩) M12 ?_
                  rotate_left
                  · intro w hSw
                    clear hSw
                    go_simp; try (with_reducible rfl)
                  try simp only [Act.put, List.getElem_toArray, List.getElem_cons_succ, List.getElem_cons_zero, List.setIfInBounds_toArray, List.set_cons_zero, List.set_cons_succ]
                  refine wpAnyH_ready (rs := [7]) (by decide +kernel) (by simp) (AllReadyH.cons rfl ?_ AllReadyH.nil)
                  intro K hK
                  rw [if_pos (by rfl)]
                  go_simp
                  have N13 : Mem (w12.alloc (.cells (th (th0)) 39)) [(w12.heap.size, .cells (th (th0)) 39), (bv, .cells (th ((exV g fc2 gs sc))) 39), (w5.heap.size, .cells (th ((exU gf fc))) 39), (w1.heap.size, .cells #[.slice (ptA gf) 1 fc, .slice none 0 0, .slice none 0 0] 36), (w.heap.size, .cells #[.string ⟨#[1]⟩, .string ⟨#[]⟩] 24), (gf, .cells cf 104), (gs, .cells cur 56)] := (M12).new' (w12.heap.size) (by rfl) (.cells (th (th0)) 39)
                  refine hK.out _ _ ⟨N13.2.1, N13.2.2.1, N13.2.2.2.1, N13.2.2.2.2.1, N13.2.2.2.2.2.1, N13.2.2.2.2.2.2.1, trivial⟩ (fun _ => ?_)
                  clear hK K
                  try simp only [Act.put, List.getElem_toArray, List.getElem_cons_succ, List.getElem_cons_zero, List.setIfInBounds_toArray, List.set_cons_zero, List.set_cons_succ]
                  refine anyH_named ?_
                  intro w13 hW13
                  have hB13 : Below w.heap.size w w13 := by rw [hW13]; exact below_al hB12 _
                  have hw13 : Laid w13 := by rw [hW13]; exact hw12.alloc _
                  have M13 : Mem w13 [(w12.heap.size, .cells (th (th0)) 39), (bv, .cells (th ((exV g fc2 gs sc))) 39), (w5.heap.size, .cells (th ((exU gf fc))) 39), (w1.heap.size, .cells #[.slice (ptA gf) 1 fc, .slice none 0 0, .slice none 0 0] 36), (w.heap.size, .cells #[.string ⟨#[1]⟩, .string ⟨#[]⟩] 24), (gf, .cells cf 104), (gs, .cells cur 56)] := by rw [hW13]; exact N13
                  replace hX := hid_then hX (below_al (Below.refl _ w12) (.cells (th (th0)) 39))
                  rw [show w12.alloc (.cells (th (th0)) 39) = w13 from hW13.symm] at hX
                  clear hW13 N13
                  have zz13 : w12.heap.size < w13.heap.size := Mem.lt M13.1
                  refine wpAnyH_ready (rs := [8]) (by decide +kernel) (by simp) (AllReadyH.cons rfl ?_ AllReadyH.nil)
                  intro K hK
                  rw [if_pos (by rfl)]
                  refine wp_store_mid 39 _ _ rfl (w12.heap.size) 0 (th ((exU gf fc))) (by rfl) (by rfl) (there_block M13.1 (Nat.le_refl 20)) info_th (one_th _) ?_
                  have N14 : Mem (w13.setCells (w12.heap.size) 0 (th ((exU gf fc))).toList) [(w12.heap.size, .cells (th ((exU gf fc))) 39), (bv, .cells (th ((exV g fc2 gs sc))) 39), (w5.heap.size, .cells (th ((exU gf fc))) 39), (w1.heap.size, .cells #[.slice (ptA gf) 1 fc, .slice none 0 0, .slice none 0 0] 36), (w.heap.size, .cells #[.string ⟨#[1]⟩, .string ⟨#[]⟩] 24), (gf, .cells cf 104), (gs, .cells cur 56)] := ⟨set_th M13.1 _, (setCells_other _ 0 _ _ (by omega)).trans M13.2.1, (setCells_other _ 0 _ _ (by omega)).trans M13.2.2.1, (setCells_other _ 0 _ _ (by omega)).trans M13.2.2.2.1, (setCells_other _ 0 _ _ (by omega)).trans M13.2.2.2.2.1, (setCells_other _ 0 _ _ (by omega)).trans M13.2.2.2.2.2.1, (setCells_other _ 0 _ _ (by omega)).trans M13.2.2.2.2.2.2.1, trivial⟩
                  refine hK.out _ _ ⟨N14.2.1, N14.2.2.1, N14.2.2.2.1, N14.2.2.2.2.1, N14.2.2.2.2.2.1, N14.2.2.2.2.2.2.1, trivial⟩ (fun _ => ?_)
                  clear hK K
                  try simp only [Act.put, List.getElem_toArray, List.getElem_cons_succ, List.getElem_cons_zero]
                  refine anyH_named ?_
                  intro w14 hW14
                  have hB14 : Below w.heap.size w w14 := by rw [hW14]; exact below_setCells (B := w.heap.size) hB13 (b := w12.heap.size) (by have := hB13.size; omega) 0 _
                  have hw14 : Laid w14 := hw0.below hB14
                  have M14 : Mem w14 [(w12.heap.size, .cells (th ((exU gf fc))) 39), (bv, .cells (th ((exV g fc2 gs sc))) 39), (w5.heap.size, .cells (th ((exU gf fc))) 39), (w1.heap.size, .cells #[.slice (ptA gf) 1 fc, .slice none 0 0, .slice none 0 0] 36), (w.heap.size, .cells #[.string ⟨#[1]⟩, .string ⟨#[]⟩] 24), (gf, .cells cf 104), (gs, .cells cur 56)] := by rw [hW14]; exact N14
                  have hY := below_setCells hX.out (b := w12.heap.size) (by omega) 0 (th ((exU gf fc))).toList
                  rw [show w13.setCells (w12.heap.size) 0 (th ((exU gf fc))).toList = w14 from hW14.symm] at hY
                  clear hW14 N14
                  refine wpAnyH_take (i := 9) (v := ?_) rfl (by decide +kernel) (by decide +kernel) (by decide +kernel) (fun _ _ _ h => h) (Or.inl ⟨by rfl, ?_⟩) ⟨M14.2.1, M14.2.2.1, M14.2.2.2.1, M14.2.2.2.2.1, M14.2.2.2.2.2.1, M14.2.2.2.2.2.2.1, trivial⟩ ?_
                  rotate_left
                  · intro w hSw
                    clear hSw
                    go_simp; try (with_reducible rfl)
                  try simp only [Act.put, List.getElem_toArray, List.getElem_cons_succ, List.getElem_cons_zero, List.setIfInBounds_toArray, List.set_cons_zero, List.set_cons_succ]
                  refine wpAnyH_done (by kernel_rfl) ?_ _
                  have z14_0 := Mem.lt M14.1
                  have z14_1 := Mem.lt M14.2.1
                  have z14_2 := Mem.lt M14.2.2.1
                  have c14_3_0 := Mem.cell (v := .slice (ptA gf) 1 fc) M14.2.2.2.1 0 rfl
                  have c14_3_1 := Mem.cell (v := .slice none 0 0) M14.2.2.2.1 1 rfl
                  have c14_3_2 := Mem.cell (v := .slice none 0 0) M14.2.2.2.1 2 rfl
                  have z14_3 := Mem.lt M14.2.2.2.1
                  have c14_4_0 := Mem.cell (v := .string ⟨#[1]⟩) M14.2.2.2.2.1 0 rfl
                  have c14_4_1 := Mem.cell (v := .string ⟨#[]⟩) M14.2.2.2.2.1 1 rfl
                  have z14_4 := Mem.lt M14.2.2.2.2.1
                  have z14_5 := Mem.lt M14.2.2.2.2.2.1
                  have z14_6 := Mem.lt M14.2.2.2.2.2.2.1
                  go_wp2_with fail
                  go_meet
                  exact ⟨_, rfl, rfl, hY⟩
                · skip
                  intro K hK
                  rw [if_pos (by rfl)]
                  go_simp
                  have N12 : Mem (w11.alloc (.cells (th (th0)) 39)) [(w11.heap.size, .cells (th (th0)) 39), (bv, .cells (th ((exV g fc2 gs sc))) 39), (w5.heap.size, .cells (th ((exU gf fc))) 39), (w1.heap.size, .cells #[.slice (ptA gf) 1 fc, .slice none 0 0, .slice none 0 0] 36), (w.heap.size, .cells #[.string ⟨#[1]⟩, .string ⟨#[]⟩] 24), (gf, .cells cf 104), (gs, .cells cur 56)] := (M11).new' (w11.heap.size) (by rfl) (.cells (th (th0)) 39)
                  refine hK.out _ _ ⟨N12.2.1, N12.2.2.1, N12.2.2.2.1, N12.2.2.2.2.1, N12.2.2.2.2.2.1, N12.2.2.2.2.2.2.1, trivial⟩ (fun _ => ?_)
                  clear hK K
                  try simp only [Act.put, List.getElem_toArray, List.getElem_cons_succ, List.getElem_cons_zero, List.setIfInBounds_toArray, List.set_cons_zero, List.set_cons_succ]
                  refine anyH_named ?_
                  intro w12 hW12
                  have hB12 : Below w.heap.size w w12 := by rw [hW12]; exact below_al hB11 _
                  have hw12 : Laid w12 := by rw [hW12]; exact hw11.alloc _
                  have M12 : Mem w12 [(w11.heap.size, .cells (th (th0)) 39), (bv, .cells (th ((exV g fc2 gs sc))) 39), (w5.heap.size, .cells (th ((exU gf fc))) 39), (w1.heap.size, .cells #[.slice (ptA gf) 1 fc, .slice none 0 0, .slice none 0 0] 36), (w.heap.size, .cells #[.string ⟨#[1]⟩, .string ⟨#[]⟩] 24), (gf, .cells cf 104), (gs, .cells cur 56)] := by rw [hW12]; exact N12
                  replace hX := hid_then hX (below_al (Below.refl _ w11) (.cells (th (th0)) 39))
                  rw [show w11.alloc (.cells (th (th0)) 39) = w12 from hW12.symm] at hX
                  clear hW12 N12
                  have zz12 : w11.heap.size < w12.heap.size := Mem.lt M12.1
                  refine wpAnyH_ready (rs := [3]) (by decide +kernel) (by simp) (AllReadyH.cons rfl ?_ AllReadyH.nil)
                  intro K hK
                  rw [if_pos (by rfl)]
                  go_simp
                  go_at_call 9
                  refine (ex_room gf fc _ hw12).mono ?_
                  rintro e w13 ⟨rfl, hb13⟩
                  have hB13 := below_then hB12 hb13
                  have hw13 := hw12.below hb13
                  have M13 := M12.below hb13
                  replace hX := hid_then hX hb13
                  have zz13 := hb13.size
                  clear hb13
                  refine hK.out _ _ ⟨M13.2.1, M13.2.2.1, M13.2.2.2.1, M13.2.2.2.2.1, M13.2.2.2.2.2.1, M13.2.2.2.2.2.2.1, trivial⟩ (fun _ => ?_)
                  clear hK K
                  try simp only [Act.put, List.getElem_toArray, List.getElem_cons_succ, List.getElem_cons_zero, List.setIfInBounds_toArray, List.set_cons_zero, List.set_cons_succ]
                  refine wpAnyH_take (i := 4) (v := ?_) rfl (by decide +kernel) (by decide +kernel) (by decide +kernel) (fun _ _ _ h => h) (Or.inl ⟨by rfl, ?_⟩) ⟨M13.2.1, M13.2.2.1, M13.2.2.2.1, M13.2.2.2.2.1, M13.2.2.2.2.2.1, M13.2.2.2.2.2.2.1, trivial⟩ ?_
                  rotate_left
                  · intro w hSw
                    clear hSw
                    go_simp; try (with_reducible rfl)
                  try simp only [Act.put, List.getElem_toArray, List.getElem_cons_succ, List.getElem_cons_zero, List.setIfInBounds_toArray, List.set_cons_zero, List.set_cons_succ]
                  refine wpAnyH_take (i := 5) (v := ?_) rfl (by decide +kernel) (by decide +kernel) (by decide +kernel) (fun _ _ _ h => h) (Or.inl ⟨by rfl, ?_⟩) ⟨M13.2.1, M13.2.2.1, M13.2.2.2.1, M13.2.2.2.2.1, M13.2.2.2.2.2.1, M13.2.2.2.2.2.2.1, trivial⟩ ?_
                  rotate_left
                  · intro w hSw
                    clear hSw
                    go_simp; try (with_reducible rfl)
                  try simp only [Act.put, List.getElem_toArray, List.getElem_cons_succ, List.getElem_cons_zero, List.setIfInBounds_toArray, List.set_cons_zero, List.set_cons_succ]
                  refine wpAnyH_take (i := 6) (v := ?_) rfl (by decide +kernel) (by decide +kernel) (by decide +kernel) (fun _ _ _ h => h) (Or.inl ⟨by rfl, ?_⟩) ⟨M13.2.1, M13.2.2.1, M13.2.2.2.1, M13.2.2.2.2.1, M13.2.2.2.2.2.1, M13.2.2.2.2.2.2.1, trivial⟩ ?_
                  rotate_left
                  · intro w hSw
                    clear hSw
                    go_simp; try (with_reducible rfl)
                  try simp only [Act.put, List.getElem_toArray, List.getElem_cons_succ, List.getElem_cons_zero, List.setIfInBounds_toArray, List.set_cons_zero, List.set_cons_succ]
                  refine wpAnyH_ready (rs := [8]) (by decide +kernel) (by simp) (AllReadyH.cons rfl ?_ AllReadyH.nil)
                  intro K hK
                  rw [if_pos (by rfl)]
                  refine wp_store_mid 39 _ _ rfl (w11.heap.size) 0 (th ((exU gf fc))) (by rfl) (by rfl) (there_block M13.1 (Nat.le_refl 20)) info_th (one_th _) ?_
                  have N14 : Mem (w13.setCells (w11.heap.size) 0 (th ((exU gf fc))).toList) [(w11.heap.size, .cells (th ((exU gf fc))) 39), (bv, .cells (th ((exV g fc2 gs sc))) 39), (w5.heap.size, .cells (th ((exU gf fc))) 39), (w1.heap.size, .cells #[.slice (ptA gf) 1 fc, .slice none 0 0, .slice none 0 0] 36), (w.heap.size, .cells #[.string ⟨#[1]⟩, .string ⟨#[]⟩] 24), (gf, .cells cf 104), (gs, .cells cur 56)] := ⟨set_th M13.1 _, (setCells_other _ 0 _ _ (by omega)).trans M13.2.1, (setCells_other _ 0 _ _ (by omega)).trans M13.2.2.1, (setCells_other _ 0 _ _ (by omega)).trans M13.2.2.2.1, (setCells_other _ 0 _ _ (by omega)).trans M13.2.2.2.2.1, (setCells_other _ 0 _ _ (by omega)).trans M13.2.2.2.2.2.1, (setCells_other _ 0 _ _ (by omega)).trans M13.2.2.2.2.2.2.1, trivial⟩
                  refine hK.out _ _ ⟨N14.2.1, N14.2.2.1, N14.2.2.2.1, N14.2.2.2.2.1, N14.2.2.2.2.2.1, N14.2.2.2.2.2.2.1, trivial⟩ (fun _ => ?_)
                  clear hK K
                  try simp only [Act.put, List.getElem_toArray, List.getElem_cons_succ, List.getElem_cons_zero]
                  refine anyH_named ?_
                  intro w14 hW14
                  have hB14 : Below w.heap.size w w14 := by rw [hW14]; exact below_setCells (B := w.heap.size) hB13 (b := w11.heap.size) (by have := hB13.size; omega) 0 _
                  have hw14 : Laid w14 := hw0.below hB14
                  have M14 : Mem w14 [(w11.heap.size, .cells (th ((exU gf fc))) 39), (bv, .cells (th ((exV g fc2 gs sc))) 39), (w5.heap.size, .cells (th ((exU gf fc))) 39), (w1.heap.size, .cells #[.slice (ptA gf) 1 fc, .slice none 0 0, .slice none 0 0] 36), (w.heap.size, .cells #[.string ⟨#[1]⟩, .string ⟨#[]⟩] 24), (gf, .cells cf 104), (gs, .cells cur 56)] := by rw [hW14]; exact N14
                  have hY := below_setCells hX.out (b := w11.heap.size) (by omega) 0 (th ((exU gf fc))).toList
                  rw [show w13.setCells (w11.heap.size) 0 (th ((exU gf fc))).toList = w14 from hW14.symm] at hY
                  clear hW14 N14
                  refine wpAnyH_take (i := 9) (v := ?_) rfl (by decide +kernel) (by decide +kernel) (by decide +kernel) (fun _ _ _ h => h) (Or.inl ⟨by rfl, ?_⟩) ⟨M14.2.1, M14.2.2.1, M14.2.2.2.1, M14.2.2.2.2.1, M14.2.2.2.2.2.1, M14.2.2.2.2.2.2.1, trivial⟩ ?_
                  rotate_left
                  · intro w hSw
                    clear hSw
                    go_simp; try (with_reducible rfl)
                  try simp only [Act.put, List.getElem_toArray, List.getElem_cons_succ, List.getElem_cons_zero, List.setIfInBounds_toArray, List.set_cons_zero, List.set_cons_succ]
                  refine wpAnyH_done (by kernel_rfl) ?_ _
                  have z14_0 := Mem.lt M14.1
                  have z14_1 := Mem.lt M14.2.1
                  have z14_2 := Mem.lt M14.2.2.1
                  have c14_3_0 := Mem.cell (v := .slice (ptA gf) 1 fc) M14.2.2.2.1 0 rfl
                  have c14_3_1 := Mem.cell (v := .slice none 0 0) M14.2.2.2.1 1 rfl
                  have c14_3_2 := Mem.cell (v := .slice none 0 0) M14.2.2.2.1 2 rfl
                  have z14_3 := Mem.lt M14.2.2.2.1
                  have c14_4_0 := Mem.cell (v := .string ⟨#[1]⟩) M14.2.2.2.2.1 0 rfl
                  have c14_4_1 := Mem.cell (v := .string ⟨#[]⟩) M14.2.2.2.2.1 1 rfl
                  have z14_4 := Mem.lt M14.2.2.2.2.1
                  have z14_5 := Mem.lt M14.2.2.2.2.2.1
                  have z14_6 := Mem.lt M14.2.2.2.2.2.2.1
                  go_wp2_with fail
                  go_meet
                  exact ⟨_, rfl, rfl, hY⟩
              · skip
                intro K hK
                rw [if_pos (by rfl)]
                go_simp
                have N11 : Mem (w10.alloc (.cells (th (th0)) 39)) [(w10.heap.size, .cells (th (th0)) 39), (bv, .cells (th ((exV g fc2 gs sc))) 39), (w5.heap.size, .cells (th ((exU gf fc))) 39), (w1.heap.size, .cells #[.slice (ptA gf) 1 fc, .slice none 0 0, .slice none 0 0] 36), (w.heap.size, .cells #[.string ⟨#[1]⟩, .string ⟨#[]⟩] 24), (gf, .cells cf 104), (gs, .cells cur 56)] := (M10).new' (w10.heap.size) (by rfl) (.cells (th (th0)) 39)
                refine hK.out _ _ ⟨N11.2.1, N11.2.2.1, N11.2.2.2.1, N11.2.2.2.2.1, N11.2.2.2.2.2.1, N11.2.2.2.2.2.2.1, trivial⟩ (fun _ => ?_)
                clear hK K
                try simp only [Act.put, List.getElem_toArray, List.getElem_cons_succ, List.getElem_cons_zero, List.setIfInBounds_toArray, List.set_cons_zero, List.set_cons_succ]
                refine anyH_named ?_
                intro w11 hW11
                have hB11 : Below w.heap.size w w11 := by rw [hW11]; exact below_al hB10 _
                have hw11 : Laid w11 := by rw [hW11]; exact hw10.alloc _
                have M11 : Mem w11 [(w10.heap.size, .cells (th (th0)) 39), (bv, .cells (th ((exV g fc2 gs sc))) 39), (w5.heap.size, .cells (th ((exU gf fc))) 39), (w1.heap.size, .cells #[.slice (ptA gf) 1 fc, .slice none 0 0, .slice none 0 0] 36), (w.heap.size, .cells #[.string ⟨#[1]⟩, .string ⟨#[]⟩] 24), (gf, .cells cf 104), (gs, .cells cur 56)] := by rw [hW11]; exact N11
                replace hX := hid_then hX (below_al (Below.refl _ w10) (.cells (th (th0)) 39))
                rw [show w10.alloc (.cells (th (th0)) 39) = w11 from hW11.symm] at hX
                clear hW11 N11
                have zz11 : w10.heap.size < w11.heap.size := Mem.lt M11.1
                refine wpAnyH_ready (rs := [1]) (by decide +kernel) (by simp) (AllReadyH.cons rfl ?_ AllReadyH.nil)
                intro K hK
                rw [if_pos (by rfl)]
                go_simp
                go_at_call 10
                refine (number_any 7 _).mono ?_
                rintro e w12 ⟨rfl, hb12⟩
                have hB12 := below_then hB11 hb12
                have hw12 := hw11.below hb12
                have M12 := M11.below hb12
                replace hX := hid_then hX hb12
                have zz12 := hb12.size
                clear hb12
                refine hK.out _ _ ⟨M12.2.1, M12.2.2.1, M12.2.2.2.1, M12.2.2.2.2.1, M12.2.2.2.2.2.1, M12.2.2.2.2.2.2.1, trivial⟩ (fun _ => ?_)
                clear hK K
                try simp only [Act.put, List.getElem_toArray, List.getElem_cons_zero, List.setIfInBounds_toArray, List.set_cons_zero, List.set_cons_succ]
                refine wpAnyH_ready (rs := [3]) (by decide +kernel) (by simp) (AllReadyH.cons rfl ?_ AllReadyH.nil)
                intro K hK
                rw [if_pos (by rfl)]
                go_simp
                go_at_call 9
                refine (ex_room gf fc _ hw12).mono ?_
                rintro e w13 ⟨rfl, hb13⟩
                have hB13 := below_then hB12 hb13
                have hw13 := hw12.below hb13
                have M13 := M12.below hb13
                replace hX := hid_then hX hb13
                have zz13 := hb13.size
                clear hb13
                refine hK.out _ _ ⟨M13.2.1, M13.2.2.1, M13.2.2.2.1, M13.2.2.2.2.1, M13.2.2.2.2.2.1, M13.2.2.2.2.2.2.1, trivial⟩ (fun _ => ?_)
                clear hK K
                try simp only [Act.put, List.getElem_toArray, List.getElem_cons_succ, List.getElem_cons_zero, List.setIfInBounds_toArray, List.set_cons_zero, List.set_cons_succ]
                refine wpAnyH_take (i := 4) (v := ?_) rfl (by decide +kernel) (by decide +kernel) (by decide +kernel) (fun _ _ _ h => h) (Or.inl ⟨by rfl, ?_⟩) ⟨M13.2.1, M13.2.2.1, M13.2.2.2.1, M13.2.2.2.2.1, M13.2.2.2.2.2.1, M13.2.2.2.2.2.2.1, trivial⟩ ?_
                rotate_left
                · intro w hSw
                  clear hSw
                  go_simp; try (with_reducible rfl)
                try simp only [Act.put, List.getElem_toArray, List.getElem_cons_succ, List.getElem_cons_zero, List.setIfInBounds_toArray, List.set_cons_zero, List.set_cons_succ]
                refine wpAnyH_take (i := 5) (v := ?_) rfl (by decide +kernel) (by decide +kernel) (by decide +kernel) (fun _ _ _ h => h) (Or.inl ⟨by rfl, ?_⟩) ⟨M13.2.1, M13.2.2.1, M13.2.2.2.1, M13.2.2.2.2.1, M13.2.2.2.2.2.1, M13.2.2.2.2.2.2.1, trivial⟩ ?_
                rotate_left
                · intro w hSw
                  clear hSw
                  go_simp; try (with_reducible rfl)
                try simp only [Act.put, List.getElem_toArray, List.getElem_cons_succ, List.getElem_cons_zero, List.setIfInBounds_toArray, List.set_cons_zero, List.set_cons_succ]
                refine wpAnyH_take (i := 6) (v := ?_) rfl (by decide +kernel) (by decide +kernel) (by decide +kernel) (fun _ _ _ h => h) (Or.inl ⟨by rfl, ?_⟩) ⟨M13.2.1, M13.2.2.1, M13.2.2.2.1, M13.2.2.2.2.1, M13.2.2.2.2.2.1, M13.2.2.2.2.2.2.1, trivial⟩ ?_
                rotate_left
                · intro w hSw
                  clear hSw
                  go_simp; try (with_reducible rfl)
                try simp only [Act.put, List.getElem_toArray, List.getElem_cons_succ, List.getElem_cons_zero, List.setIfInBounds_toArray, List.set_cons_zero, List.set_cons_succ]
                refine wpAnyH_ready (rs := [8]) (by decide +kernel) (by simp) (AllReadyH.cons rfl ?_ AllReadyH.nil)
                intro K hK
                rw [if_pos (by rfl)]
                refine wp_store_mid 39 _ _ rfl (w10.heap.size) 0 (th ((exU gf fc))) (by rfl) (by rfl) (there_block M13.1 (Nat.le_refl 20)) info_th (one_th _) ?_
                have N14 : Mem (w13.setCells (w10.heap.size) 0 (th ((exU gf fc))).toList) [(w10.heap.size, .cells (th ((exU gf fc))) 39), (bv, .cells (th ((exV g fc2 gs sc))) 39), (w5.heap.size, .cells (th ((exU gf fc))) 39), (w1.heap.size, .cells #[.slice (ptA gf) 1 fc, .slice none 0 0, .slice none 0 0] 36), (w.heap.size, .cells #[.string ⟨#[1]⟩, .string ⟨#[]⟩] 24), (gf, .cells cf 104), (gs, .cells cur 56)] := ⟨set_th M13.1 _, (setCells_other _ 0 _ _ (by omega)).trans M13.2.1, (setCells_other _ 0 _ _ (by omega)).trans M13.2.2.1, (setCells_other _ 0 _ _ (by omega)).trans M13.2.2.2.1, (setCells_other _ 0 _ _ (by omega)).trans M13.2.2.2.2.1, (setCells_other _ 0 _ _ (by omega)).trans M13.2.2.2.2.2.1, (setCells_other _ 0 _ _ (by omega)).trans M13.2.2.2.2.2.2.1, trivial⟩
                refine hK.out _ _ ⟨N14.2.1, N14.2.2.1, N14.2.2.2.1, N14.2.2.2.2.1, N14.2.2.2.2.2.1, N14.2.2.2.2.2.2.1, trivial⟩ (fun _ => ?_)
                clear hK K
                try simp only [Act.put, List.getElem_toArray, List.getElem_cons_succ, List.getElem_cons_zero]
                refine anyH_named ?_
                intro w14 hW14
                have hB14 : Below w.heap.size w w14 := by rw [hW14]; exact below_setCells (B := w.heap.size) hB13 (b := w10.heap.size) (by have := hB13.size; omega) 0 _
                have hw14 : Laid w14 := hw0.below hB14
                have M14 : Mem w14 [(w10.heap.size, .cells (th ((exU gf fc))) 39), (bv, .cells (th ((exV g fc2 gs sc))) 39), (w5.heap.size, .cells (th ((exU gf fc))) 39), (w1.heap.size, .cells #[.slice (ptA gf) 1 fc, .slice none 0 0, .slice none 0 0] 36), (w.heap.size, .cells #[.string ⟨#[1]⟩, .string ⟨#[]⟩] 24), (gf, .cells cf 104), (gs, .cells cur 56)] := by rw [hW14]; exact N14
                have hY := below_setCells hX.out (b := w10.heap.size) (by omega) 0 (th ((exU gf fc))).toList
                rw [show w13.setCells (w10.heap.size) 0 (th ((exU gf fc))).toList = w14 from hW14.symm] at hY
                clear hW14 N14
                refine wpAnyH_take (i := 9) (v := ?_) rfl (by decide +kernel) (by decide +kernel) (by decide +kernel) (fun _ _ _ h => h) (Or.inl ⟨by rfl, ?_⟩) ⟨M14.2.1, M14.2.2.1, M14.2.2.2.1, M14.2.2.2.2.1, M14.2.2.2.2.2.1, M14.2.2.2.2.2.2.1, trivial⟩ ?_
                rotate_left
                · intro w hSw
                  clear hSw
                  go_simp; try (with_reducible rfl)
                try simp only [Act.put, List.getElem_toArray, List.getElem_cons_succ, List.getElem_cons_zero, List.setIfInBounds_toArray, List.set_cons_zero, List.set_cons_succ]
                refine wpAnyH_done (by kernel_rfl) ?_ _
                have z14_0 := Mem.lt M14.1
                have z14_1 := Mem.lt M14.2.1
                have z14_2 := Mem.lt M14.2.2.1
                have c14_3_0 := Mem.cell (v := .slice (ptA gf) 1 fc) M14.2.2.2.1 0 rfl
                have c14_3_1 := Mem.cell (v := .slice none 0 0) M14.2.2.2.1 1 rfl
                have c14_3_2 := Mem.cell (v := .slice none 0 0) M14.2.2.2.1 2 rfl
                have z14_3 := Mem.lt M14.2.2.2.1
                have c14_4_0 := Mem.cell (v := .string ⟨#[1]⟩) M14.2.2.2.2.1 0 rfl
                have c14_4_1 := Mem.cell (v := .string ⟨#[]⟩) M14.2.2.2.2.1 1 rfl
                have z14_4 := Mem.lt M14.2.2.2.2.1
                have z14_5 := Mem.lt M14.2.2.2.2.2.1
                have z14_6 := Mem.lt M14.2.2.2.2.2.2.1
                go_wp2_with fail
                go_meet
                exact ⟨_, rfl, rfl, hY⟩
          case rest =>
            as_aux_lemma =>

              obtain ⟨b9, rfl, rfl, hb9⟩ := hcut
              obtain ⟨w10, rfl⟩ : ∃ x, x = wc := ⟨_, rfl⟩
              have hB10 := below_then hB9 hb9
              have hw10 := hw9.below hb9
              have M10 := M9.below hb9
              clear z9_0 z9_1 c9_2_0 c9_2_1 c9_2_2 z9_2 c9_3_0 c9_3_1 z9_3 z9_4 z9_5
              have z10_0 := Mem.lt M10.1
              have z10_1 := Mem.lt M10.2.1
              have c10_2_0 := Mem.cell (v := .slice (ptA gf) 1 fc) M10.2.2.1 0 rfl
              have c10_2_1 := Mem.cell (v := .slice none 0 0) M10.2.2.1 1 rfl
              have c10_2_2 := Mem.cell (v := .slice none 0 0) M10.2.2.1 2 rfl
              have z10_2 := Mem.lt M10.2.2.1
              have c10_3_0 := Mem.cell (v := .string ⟨#[1]⟩) M10.2.2.2.1 0 rfl
              have c10_3_1 := Mem.cell (v := .string ⟨#[]⟩) M10.2.2.2.1 1 rfl
              have z10_3 := Mem.lt M10.2.2.2.1
              have z10_4 := Mem.lt M10.2.2.2.2.1
              have z10_5 := Mem.lt M10.2.2.2.2.2.1
              go_upto_region 10 with (fail)
              go_cut [14] (fun s14 wx => ∃ b, s14 = .pointer (some ⟨b, 0, none⟩) ∧ w10.heap.size ≤ b ∧ Below w10.heap.size w10 wx ∧ wx.heap[b]? = some (.cells (th (exW g fc2 gs sc)) 39))
              case first =>
                as_aux_lemma =>
                  have hX := Lib.hid (Below.refl w10.heap.size w10)
                  clear z10_0 z10_1 c10_2_0 c10_2_1 c10_2_2 z10_2 c10_3_0 c10_3_1 z10_3 z10_4 z10_5
                  refine wp_region_held (S := fun w' => Mem w' [(bv, .cells (th ((exV g fc2 gs sc))) 39), (w5.heap.size, .cells (th ((exU gf fc))) 39), (w1.heap.size, .cells #[.slice (ptA gf) 1 fc, .slice none 0 0, .slice none 0 0] 36), (w.heap.size, .cells #[.string ⟨#[1]⟩, .string ⟨#[]⟩] 24), (gf, .cells cf 104), (gs, .cells cur 56)]) (by kernel_rfl) ?_
                  change wpAnyH _ _ _ _ _ 5 (Array.replicate 5 false) _ w10.drew
                  refine anyH_named ?_
                  intro w11 hW11
                  have hB11 : Below w.heap.size w w11 := by rw [hW11]; exact below_dr hB10
                  have hw11 : Laid w11 := by rw [hW11]; exact hw10.below (below_dr (Below.refl _ _))
                  have M11 : Mem w11 [(bv, .cells (th ((exV g fc2 gs sc))) 39), (w5.heap.size, .cells (th ((exU gf fc))) 39), (w1.heap.size, .cells #[.slice (ptA gf) 1 fc, .slice none 0 0, .slice none 0 0] 36), (w.heap.size, .cells #[.string ⟨#[1]⟩, .string ⟨#[]⟩] 24), (gf, .cells cf 104), (gs, .cells cur 56)] := by rw [hW11]; exact Mem.drew M10
                  have zz11 : w10.heap.size ≤ w11.heap.size := by rw [hW11]; exact Nat.le_refl _
                  replace hX := hid_then hX (below_dr (Below.refl _ w10))
                  rw [← hW11] at hX
                  clear hW11
                  have zh11_0 := Mem.lt M11.1
                  have zh11_1 := Mem.lt M11.2.1
                  have zh11_2 := Mem.lt M11.2.2.1
                  have zh11_3 := Mem.lt M11.2.2.2.1
                  have zh11_4 := Mem.lt M11.2.2.2.2.1
                  have zh11_5 := Mem.lt M11.2.2.2.2.2.1
                  refine wpAnyH_take (i := 0) (v := .agg (th ((exV g fc2 gs sc)))) rfl (by decide +kernel) (by decide +kernel) (by decide +kernel) (fun _ _ _ h => h) (yieldsIf_load_mid (by rfl) 39 _ rfl (bv) 0 (by rfl) (th ((exV g fc2 gs sc))).toList _ (fun w hSw => range_block hSw.1) Tryz.underlying39 rfl info_th) M11 ?_
                  try simp only [Act.put, List.getElem_toArray, List.getElem_cons_zero, List.setIfInBounds_toArray, List.set_cons_zero, List.set_cons_succ]
                  refine wpAnyH_ready (rs := [1, 3]) (by decide +kernel) (by simp) (AllReadyH.cons rfl ?_ (AllReadyH.cons rfl ?_ AllReadyH.nil))
                  · skip
                    intro K hK
                    rw [if_pos (by rfl)]
                    go_simp
                    go_at_call 10
                    refine (number_any 3 _).mono ?_
                    rintro e w12 ⟨rfl, hb12⟩
                    have hB12 := below_then hB11 hb12
                    have hw12 := hw11.below hb12
                    have M12 := M11.below hb12
                    replace hX := hid_then hX hb12
                    have zz12 := hb12.size
                    clear hb12
                    refine hK.out _ _ M12 (fun _ => ?_)
                    clear hK K
                    try simp only [Act.put, List.getElem_toArray, List.getElem_cons_succ, List.getElem_cons_zero, List.setIfInBounds_toArray, List.set_cons_zero, List.set_cons_succ]
                    refine wpAnyH_ready (rs := [2, 3]) (by decide +kernel) (by simp) (AllReadyH.cons rfl ?_ (AllReadyH.cons rfl ?_ AllReadyH.nil))
                    · skip
                      intro K hK
                      rw [if_pos (by rfl)]
                      go_simp
                      go_at_call 24
                      refine (ex_fin g fc2 gs sc _).mono ?_
                      rintro e w13 ⟨rfl, hb13⟩
                      have hB13 := below_then hB12 hb13
                      have hw13 := hw12.below hb13
                      have M13 := M12.below hb13
                      replace hX := hid_then hX hb13
                      have zz13 := hb13.size
                      clear hb13
                      refine hK.out _ _ M13 (fun _ => ?_)
                      clear hK K
                      try simp only [Act.put, List.getElem_toArray, List.getElem_cons_succ, List.getElem_cons_zero, List.setIfInBounds_toArray, List.set_cons_zero, List.set_cons_succ]
                      refine wpAnyH_ready (rs := [3]) (by decide +kernel) (by simp) (AllReadyH.cons rfl ?_ AllReadyH.nil)
                      intro K hK
                      rw [if_pos (by rfl)]
                      go_simp
                      have N14 : Mem (w13.alloc (.cells (th (th0)) 39)) [(w13.heap.size, .cells (th (th0)) 39), (bv, .cells (th ((exV g fc2 gs sc))) 39), (w5.heap.size, .cells (th ((exU gf fc))) 39), (w1.heap.size, .cells #[.slice (ptA gf) 1 fc, .slice none 0 0, .slice none 0 0] 36), (w.heap.size, .cells #[.string ⟨#[1]⟩, .string ⟨#[]⟩] 24), (gf, .cells cf 104), (gs, .cells cur 56)] := (M13).new' (w13.heap.size) (by rfl) (.cells (th (th0)) 39)
                      refine hK.out _ _ ⟨N14.2.1, N14.2.2.1, N14.2.2.2.1, N14.2.2.2.2.1, N14.2.2.2.2.2.1, N14.2.2.2.2.2.2.1, trivial⟩ (fun _ => ?_)
                      clear hK K
                      try simp only [Act.put, List.getElem_toArray, List.getElem_cons_succ, List.getElem_cons_zero, List.setIfInBounds_toArray, List.set_cons_zero, List.set_cons_succ]
                      refine anyH_named ?_
                      intro w14 hW14
                      have hB14 : Below w.heap.size w w14 := by rw [hW14]; exact below_al hB13 _
                      have hw14 : Laid w14 := by rw [hW14]; exact hw13.alloc _
                      have M14 : Mem w14 [(w13.heap.size, .cells (th (th0)) 39), (bv, .cells (th ((exV g fc2 gs sc))) 39), (w5.heap.size, .cells (th ((exU gf fc))) 39), (w1.heap.size, .cells #[.slice (ptA gf) 1 fc, .slice none 0 0, .slice none 0 0] 36), (w.heap.size, .cells #[.string ⟨#[1]⟩, .string ⟨#[]⟩] 24), (gf, .cells cf 104), (gs, .cells cur 56)] := by rw [hW14]; exact N14
                      replace hX := hid_then hX (below_al (Below.refl _ w13) (.cells (th (th0)) 39))
                      rw [show w13.alloc (.cells (th (th0)) 39) = w14 from hW14.symm] at hX
                      clear hW14 N14
                      have zz14 : w13.heap.size < w14.heap.size := Mem.lt M14.1
                      refine wpAnyH_ready (rs := [4]) (by decide +kernel) (by simp) (AllReadyH.cons rfl ?_ AllReadyH.nil)
                      intro K hK
                      rw [if_pos (by rfl)]
                      refine wp_store_mid 39 _ _ rfl (w13.heap.size) 0 (th ((exW g fc2 gs sc))) (by rfl) (by rfl) (there_block M14.1 (Nat.le_refl 20)) info_th (one_th _) ?_
                      have N15 : Mem (w14.setCells (w13.heap.size) 0 (th ((exW g fc2 gs sc))).toList) [(w13.heap.size, .cells (th ((exW g fc2 gs sc))) 39), (bv, .cells (th ((exV g fc2 gs sc))) 39), (w5.heap.size, .cells (th ((exU gf fc))) 39), (w1.heap.size, .cells #[.slice (ptA gf) 1 fc, .slice none 0 0, .slice none 0 0] 36), (w.heap.size, .cells #[.string ⟨#[1]⟩, .string ⟨#[]⟩] 24), (gf, .cells cf 104), (gs, .cells cur 56)] := ⟨set_th M14.1 _, (setCells_other _ 0 _ _ (by omega)).trans M14.2.1, (setCells_other _ 0 _ _ (by omega)).trans M14.2.2.1, (setCells_other _ 0 _ _ (by omega)).trans M14.2.2.2.1, (setCells_other _ 0 _ _ (by omega)).trans M14.2.2.2.2.1, (setCells_other _ 0 _ _ (by omega)).trans M14.2.2.2.2.2.1, (setCells_other _ 0 _ _ (by omega)).trans M14.2.2.2.2.2.2.1, trivial⟩
                      refine hK.out _ _ ⟨N15.2.1, N15.2.2.1, N15.2.2.2.1, N15.2.2.2.2.1, N15.2.2.2.2.2.1, N15.2.2.2.2.2.2.1, trivial⟩ (fun _ => ?_)
                      clear hK K
                      try simp only [Act.put, List.getElem_toArray, List.getElem_cons_succ, List.getElem_cons_zero]
                      refine anyH_named ?_
                      intro w15 hW15
                      have hB15 : Below w.heap.size w w15 := by rw [hW15]; exact below_setCells (B := w.heap.size) hB14 (b := w13.heap.size) (by have := hB14.size; omega) 0 _
                      have hw15 : Laid w15 := hw0.below hB15
                      have M15 : Mem w15 [(w13.heap.size, .cells (th ((exW g fc2 gs sc))) 39), (bv, .cells (th ((exV g fc2 gs sc))) 39), (w5.heap.size, .cells (th ((exU gf fc))) 39), (w1.heap.size, .cells #[.slice (ptA gf) 1 fc, .slice none 0 0, .slice none 0 0] 36), (w.heap.size, .cells #[.string ⟨#[1]⟩, .string ⟨#[]⟩] 24), (gf, .cells cf 104), (gs, .cells cur 56)] := by rw [hW15]; exact N15
                      have hY := below_setCells hX.out (b := w13.heap.size) (by omega) 0 (th ((exW g fc2 gs sc))).toList
                      rw [show w14.setCells (w13.heap.size) 0 (th ((exW g fc2 gs sc))).toList = w15 from hW15.symm] at hY
                      clear hW15 N15
                      refine wpAnyH_done (by kernel_rfl) ?_ _
                      have z15_0 := Mem.lt M15.1
                      have z15_1 := Mem.lt M15.2.1
                      have z15_2 := Mem.lt M15.2.2.1
                      have c15_3_0 := Mem.cell (v := .slice (ptA gf) 1 fc) M15.2.2.2.1 0 rfl
                      have c15_3_1 := Mem.cell (v := .slice none 0 0) M15.2.2.2.1 1 rfl
                      have c15_3_2 := Mem.cell (v := .slice none 0 0) M15.2.2.2.1 2 rfl
                      have z15_3 := Mem.lt M15.2.2.2.1
                      have c15_4_0 := Mem.cell (v := .string ⟨#[1]⟩) M15.2.2.2.2.1 0 rfl
                      have c15_4_1 := Mem.cell (v := .string ⟨#[]⟩) M15.2.2.2.2.1 1 rfl
                      have z15_4 := Mem.lt M15.2.2.2.2.1
                      have z15_5 := Mem.lt M15.2.2.2.2.2.1
                      have z15_6 := Mem.lt M15.2.2.2.2.2.2.1
                      go_wp2_with fail
                      go_meet
                      exact ⟨_, rfl, by omega, hY, M15.1⟩
                    · skip
                      intro K hK
                      rw [if_pos (by rfl)]
                      go_simp
                      have N13 : Mem (w12.alloc (.cells (th (th0)) 39)) [(w12.heap.size, .cells (th (th0)) 39), (bv, .cells (th ((exV g fc2 gs sc))) 39), (w5.heap.size, .cells (th ((exU gf fc))) 39), (w1.heap.size, .cells #[.slice (ptA gf) 1 fc, .slice none 0 0, .slice none 0 0] 36), (w.heap.size, .cells #[.string ⟨#[1]⟩, .string ⟨#[]⟩] 24), (gf, .cells cf 104), (gs, .cells cur 56)] := (M12).new' (w12.heap.size) (by rfl) (.cells (th (th0)) 39)
                      refine hK.out _ _ ⟨N13.2.1, N13.2.2.1, N13.2.2.2.1, N13.2.2.2.2.1, N13.2.2.2.2.2.1, N13.2.2.2.2.2.2.1, trivial⟩ (fun _ => ?_)
                      clear hK K
                      try simp only [Act.put, List.getElem_toArray, List.getElem_cons_succ, List.getElem_cons_zero, List.setIfInBounds_toArray, List.set_cons_zero, List.set_cons_succ]
                      refine anyH_named ?_
                      intro w13 hW13
                      have hB13 : Below w.heap.size w w13 := by rw [hW13]; exact below_al hB12 _
                      have hw13 : Laid w13 := by rw [hW13]; exact hw12.alloc _
                      have M13 : Mem w13 [(w12.heap.size, .cells (th (th0)) 39), (bv, .cells (th ((exV g fc2 gs sc))) 39), (w5.heap.size, .cells (th ((exU gf fc))) 39), (w1.heap.size, .cells #[.slice (ptA gf) 1 fc, .slice none 0 0, .slice none 0 0] 36), (w.heap.size, .cells #[.string ⟨#[1]⟩, .string ⟨#[]⟩] 24), (gf, .cells cf 104), (gs, .cells cur 56)] := by rw [hW13]; exact N13
                      replace hX := hid_then hX (below_al (Below.refl _ w12) (.cells (th (th0)) 39))
                      rw [show w12.alloc (.cells (th (th0)) 39) = w13 from hW13.symm] at hX
                      clear hW13 N13
                      have zz13 : w12.heap.size < w13.heap.size := Mem.lt M13.1
                      refine wpAnyH_ready (rs := [2]) (by decide +kernel) (by simp) (AllReadyH.cons rfl ?_ AllReadyH.nil)
                      intro K hK
                      rw [if_pos (by rfl)]
                      go_simp
                      go_at_call 24
                      refine (ex_fin g fc2 gs sc _).mono ?_
                      rintro e w14 ⟨rfl, hb14⟩
                      have hB14 := below_then hB13 hb14
                      have hw14 := hw13.below hb14
                      have M14 := M13.below hb14
                      replace hX := hid_then hX hb14
                      have zz14 := hb14.size
                      clear hb14
                      refine hK.out _ _ ⟨M14.2.1, M14.2.2.1, M14.2.2.2.1, M14.2.2.2.2.1, M14.2.2.2.2.2.1, M14.2.2.2.2.2.2.1, trivial⟩ (fun _ => ?_)
                      clear hK K
                      try simp only [Act.put, List.getElem_toArray, List.getElem_cons_succ, List.getElem_cons_zero, List.setIfInBounds_toArray, List.set_cons_zero, List.set_cons_succ]
                      refine wpAnyH_ready (rs := [4]) (by decide +kernel) (by simp) (AllReadyH.cons rfl ?_ AllReadyH.nil)
                      intro K hK
                      rw [if_pos (by rfl)]
                      refine wp_store_mid 39 _ _ rfl (w12.heap.size) 0 (th ((exW g fc2 gs sc))) (by rfl) (by rfl) (there_block M14.1 (Nat.le_refl 20)) info_th (one_th _) ?_
                      have N15 : Mem (w14.setCells (w12.heap.size) 0 (th ((exW g fc2 gs sc))).toList) [(w12.heap.size, .cells (th ((exW g fc2 gs sc))) 39), (bv, .cells (th ((exV g fc2 gs sc))) 39), (w5.heap.size, .cells (th ((exU gf fc))) 39), (w1.heap.size, .cells #[.slice (ptA gf) 1 fc, .slice none 0 0, .slice none 0 0] 36), (w.heap.size, .cells #[.string ⟨#[1]⟩, .string ⟨#[]⟩] 24), (gf, .cells cf 104), (gs, .cells cur 56)] := ⟨set_th M14.1 _, (setCells_other _ 0 _ _ (by omega)).trans M14.2.1, (setCells_other _ 0 _ _ (by omega)).trans M14.2.2.1, (setCells_other _ 0 _ _ (by omega)).trans M14.2.2.2.1, (setCells_other _ 0 _ _ (by omega)).trans M14.2.2.2.2.1, (setCells_other _ 0 _ _ (by omega)).trans M14.2.2.2.2.2.1, (setCells_other _ 0 _ _ (by omega)).trans M14.2.2.2.2.2.2.1, trivial⟩
                      refine hK.out _ _ ⟨N15.2.1, N15.2.2.1, N15.2.2.2.1, N15.2.2.2.2.1, N15.2.2.2.2.2.1, N15.2.2.2.2.2.2.1, trivial⟩ (fun _ => ?_)
                      clear hK K
                      try simp only [Act.put, List.getElem_toArray, List.getElem_cons_succ, List.getElem_cons_zero]
                      refine anyH_named ?_
                      intro w15 hW15
                      have hB15 : Below w.heap.size w w15 := by rw [hW15]; exact below_setCells (B := w.heap.size) hB14 (b := w12.heap.size) (by have := hB14.size; omega) 0 _
                      have hw15 : Laid w15 := hw0.below hB15
                      have M15 : Mem w15 [(w12.heap.size, .cells (th ((exW g fc2 gs sc))) 39), (bv, .cells (th ((exV g fc2 gs sc))) 39), (w5.heap.size, .cells (th ((exU gf fc))) 39), (w1.heap.size, .cells #[.slice (ptA gf) 1 fc, .slice none 0 0, .slice none 0 0] 36), (w.heap.size, .cells #[.string ⟨#[1]⟩, .string ⟨#[]⟩] 24), (gf, .cells cf 104), (gs, .cells cur 56)] := by rw [hW15]; exact N15
                      have hY := below_setCells hX.out (b := w12.heap.size) (by omega) 0 (th ((exW g fc2 gs sc))).toList
                      rw [show w14.setCells (w12.heap.size) 0 (th ((exW g fc2 gs sc))).toList = w15 from hW15.symm] at hY
                      clear hW15 N15
                      refine wpAnyH_done (by kernel_rfl) ?_ _
                      have z15_0 := Mem.lt M15.1
                      have z15_1 := Mem.lt M15.2.1
                      have z15_2 := Mem.lt M15.2.2.1
                      have c15_3_0 := Mem.cell (v := .slice (ptA gf) 1 fc) M15.2.2.2.1 0 rfl
                      have c15_3_1 := Mem.cell (v := .slice none 0 0) M15.2.2.2.1 1 rfl
                      have c15_3_2 := Mem.cell (v := .slice none 0 0) M15.2.2.2.1 2 rfl
                      have z15_3 := Mem.lt M15.2.2.2.1
                      have c15_4_0 := Mem.cell (v := .string ⟨#[1]⟩) M15.2.2.2.2.1 0 rfl
                      have c15_4_1 := Mem.cell (v := .string ⟨#[]⟩) M15.2.2.2.2.1 1 rfl
                      have z15_4 := Mem.lt M15.2.2.2.2.1
                      have z15_5 := Mem.lt M15.2.2.2.2.2.1
                      have z15_6 := Mem.lt M15.2.2.2.2.2.2.1
                      go_wp2_with fail
                      go_meet
                      exact ⟨_, rfl, by omega, hY, M15.1⟩
                  · skip
                    intro K hK
                    rw [if_pos (by rfl)]
                    go_simp
                    have N12 : Mem (w11.alloc (.cells (th (th0)) 39)) [(w11.heap.size, .cells (th (th0)) 39), (bv, .cells (th ((exV g fc2 gs sc))) 39), (w5.heap.size, .cells (th ((exU gf fc))) 39), (w1.heap.size, .cells #[.slice (ptA gf) 1 fc, .slice none 0 0, .slice none 0 0] 36), (w.heap.size, .cells #[.string ⟨#[1]⟩, .string ⟨#[]⟩] 24), (gf, .cells cf 104), (gs, .cells cur 56)] := (M11).new' (w11.heap.size) (by rfl) (.cells (th (th0)) 39)
                    refine hK.out _ _ ⟨N12.2.1, N12.2.2.1, N12.2.2.2.1, N12.2.2.2.2.1, N12.2.2.2.2.2.1, N12.2.2.2.2.2.2.1, trivial⟩ (fun _ => ?_)
                    clear hK K
                    try simp only [Act.put, List.getElem_toArray, List.getElem_cons_succ, List.getElem_cons_zero, List.setIfInBounds_toArray, List.set_cons_zero, List.set_cons_succ]
                    refine anyH_named ?_
                    intro w12 hW12
                    have hB12 : Below w.heap.size w w12 := by rw [hW12]; exact below_al hB11 _
                    have hw12 : Laid w12 := by rw [hW12]; exact hw11.alloc _
                    have M12 : Mem w12 [(w11.heap.size, .cells (th (th0)) 39), (bv, .cells (th ((exV g fc2 gs sc))) 39), (w5.heap.size, .cells (th ((exU gf fc))) 39), (w1.heap.size, .cells #[.slice (ptA gf) 1 fc, .slice none 0 0, .slice none 0 0] 36), (w.heap.size, .cells #[.string ⟨#[1]⟩, .string ⟨#[]⟩] 24), (gf, .cells cf 104), (gs, .cells cur 56)] := by rw [hW12]; exact N12
                    replace hX := hid_then hX (below_al (Below.refl _ w11) (.cells (th (th0)) 39))
                    rw [show w11.alloc (.cells (th (th0)) 39) = w12 from hW12.symm] at hX
                    clear hW12 N12
                    have zz12 : w11.heap.size < w12.heap.size := Mem.lt M12.1
                    refine wpAnyH_ready (rs := [1]) (by decide +kernel) (by simp) (AllReadyH.cons rfl ?_ AllReadyH.nil)
                    intro K hK
                    rw [if_pos (by rfl)]
                    go_simp
                    go_at_call 10
                    refine (number_any 3 _).mono ?_
                    rintro e w13 ⟨rfl, hb13⟩
                    have hB13 := below_then hB12 hb13
                    have hw13 := hw12.below hb13
                    have M13 := M12.below hb13
                    replace hX := hid_then hX hb13
                    have zz13 := hb13.size
                    clear hb13
                    refine hK.out _ _ ⟨M13.2.1, M13.2.2.1, M13.2.2.2.1, M13.2.2.2.2.1, M13.2.2.2.2.2.1, M13.2.2.2.2.2.2.1, trivial⟩ (fun _ => ?_)
                    clear hK K
                    try simp only [Act.put, List.getElem_toArray, List.getElem_cons_succ, List.getElem_cons_zero, List.setIfInBounds_toArray, List.set_cons_zero, List.set_cons_succ]
                    refine wpAnyH_ready (rs := [2]) (by decide +kernel) (by simp) (AllReadyH.cons rfl ?_ AllReadyH.nil)
                    intro K hK
                    rw [if_pos (by rfl)]
                    go_simp
                    go_at_call 24
                    refine (ex_fin g fc2 gs sc _).mono ?_
                    rintro e w14 ⟨rfl, hb14⟩
                    have hB14 := below_then hB13 hb14
                    have hw14 := hw13.below hb14
                    have M14 := M13.below hb14
                    replace hX := hid_then hX hb14
                    have zz14 := hb14.size
                    clear hb14
                    refine hK.out _ _ ⟨M14.2.1, M14.2.2.1, M14.2.2.2.1, M14.2.2.2.2.1, M14.2.2.2.2.2.1, M14.2.2.2.2.2.2.1, trivial⟩ (fun _ => ?_)
                    clear hK K
                    try simp only [Act.put, List.getElem_toArray, List.getElem_cons_succ, List.getElem_cons_zero, List.setIfInBounds_toArray, List.set_cons_zero, List.set_cons_succ]
                    refine wpAnyH_ready (rs := [4]) (by decide +kernel) (by simp) (AllReadyH.cons rfl ?_ AllReadyH.nil)
                    intro K hK
                    rw [if_pos (by rfl)]
                    refine wp_store_mid 39 _ _ rfl (w11.heap.size) 0 (th ((exW g fc2 gs sc))) (by rfl) (by rfl) (there_block M14.1 (Nat.le_refl 20)) info_th (one_th _) ?_
                    have N15 : Mem (w14.setCells (w11.heap.size) 0 (th ((exW g fc2 gs sc))).toList) [(w11.heap.size, .cells (th ((exW g fc2 gs sc))) 39), (bv, .cells (th ((exV g fc2 gs sc))) 39), (w5.heap.size, .cells (th ((exU gf fc))) 39), (w1.heap.size, .cells #[.slice (ptA gf) 1 fc, .slice none 0 0, .slice none 0 0] 36), (w.heap.size, .cells #[.string ⟨#[1]⟩, .string ⟨#[]⟩] 24), (gf, .cells cf 104), (gs, .cells cur 56)] := ⟨set_th M14.1 _, (setCells_other _ 0 _ _ (by omega)).trans M14.2.1, (setCells_other _ 0 _ _ (by omega)).trans M14.2.2.1, (setCells_other _ 0 _ _ (by omega)).trans M14.2.2.2.1, (setCells_other _ 0 _ _ (by omega)).trans M14.2.2.2.2.1, (setCells_other _ 0 _ _ (by omega)).trans M14.2.2.2.2.2.1, (setCells_other _ 0 _ _ (by omega)).trans M14.2.2.2.2.2.2.1, trivial⟩
                    refine hK.out _ _ ⟨N15.2.1, N15.2.2.1, N15.2.2.2.1, N15.2.2.2.2.1, N15.2.2.2.2.2.1, N15.2.2.2.2.2.2.1, trivial⟩ (fun _ => ?_)
                    clear hK K
                    try simp only [Act.put, List.getElem_toArray, List.getElem_cons_succ, List.getElem_cons_zero]
                    refine anyH_named ?_
                    intro w15 hW15
                    have hB15 : Below w.heap.size w w15 := by rw [hW15]; exact below_setCells (B := w.heap.size) hB14 (b := w11.heap.size) (by have := hB14.size; omega) 0 _
                    have hw15 : Laid w15 := hw0.below hB15
                    have M15 : Mem w15 [(w11.heap.size, .cells (th ((exW g fc2 gs sc))) 39), (bv, .cells (th ((exV g fc2 gs sc))) 39), (w5.heap.size, .cells (th ((exU gf fc))) 39), (w1.heap.size, .cells #[.slice (ptA gf) 1 fc, .slice none 0 0, .slice none 0 0] 36), (w.heap.size, .cells #[.string ⟨#[1]⟩, .string ⟨#[]⟩] 24), (gf, .cells cf 104), (gs, .cells cur 56)] := by rw [hW15]; exact N15
                    have hY := below_setCells hX.out (b := w11.heap.size) (by omega) 0 (th ((exW g fc2 gs sc))).toList
                    rw [show w14.setCells (w11.heap.size) 0 (th ((exW g fc2 gs sc))).toList = w15 from hW15.symm] at hY
                    clear hW15 N15
                    refine wpAnyH_done (by kernel_rfl) ?_ _
                    have z15_0 := Mem.lt M15.1
                    have z15_1 := Mem.lt M15.2.1
                    have z15_2 := Mem.lt M15.2.2.1
                    have c15_3_0 := Mem.cell (v := .slice (ptA gf) 1 fc) M15.2.2.2.1 0 rfl
                    have c15_3_1 := Mem.cell (v := .slice none 0 0) M15.2.2.2.1 1 rfl
                    have c15_3_2 := Mem.cell (v := .slice none 0 0) M15.2.2.2.1 2 rfl
                    have z15_3 := Mem.lt M15.2.2.2.1
                    have c15_4_0 := Mem.cell (v := .string ⟨#[1]⟩) M15.2.2.2.2.1 0 rfl
                    have c15_4_1 := Mem.cell (v := .string ⟨#[]⟩) M15.2.2.2.2.1 1 rfl
                    have z15_4 := Mem.lt M15.2.2.2.2.1
                    have z15_5 := Mem.lt M15.2.2.2.2.2.1
                    have z15_6 := Mem.lt M15.2.2.2.2.2.2.1
                    go_wp2_with fail
                    go_meet
                    exact ⟨_, rfl, by omega, hY, M15.1⟩
              case rest =>
                as_aux_lemma =>
                  obtain ⟨bw, rfl, q4, hb10, hbw⟩ := hcut
                  have oobw : bv < bw := by have := Mem.lt M10.1; omega
                  have oosw : gs < bw := by have := Mem.lt M10.2.2.2.2.2.1; omega
                  have oocw : w1.heap.size < bw := by have := Mem.lt M10.2.2.1; omega
                  have oouw : w5.heap.size < bw := by have := Mem.lt M10.2.1; omega
                  obtain ⟨w11, rfl⟩ : ∃ x, x = wc := ⟨_, rfl⟩
                  have hB11 := below_then hB10 hb10
                  have hw11 := hw10.below hb10
                  have M11 : Mem w11 [(bw, .cells (th ((exW g fc2 gs sc))) 39), (bv, .cells (th ((exV g fc2 gs sc))) 39), (w5.heap.size, .cells (th ((exU gf fc))) 39), (w1.heap.size, .cells #[.slice (ptA gf) 1 fc, .slice none 0 0, .slice none 0 0] 36), (w.heap.size, .cells #[.string ⟨#[1]⟩, .string ⟨#[]⟩] 24), (gf, .cells cf 104), (gs, .cells cur 56)] := ⟨hbw, M10.below hb10⟩
                  clear z10_0 z10_1 c10_2_0 c10_2_1 c10_2_2 z10_2 c10_3_0 c10_3_1 z10_3 z10_4 z10_5
                  have z11_0 := Mem.lt M11.1
                  have z11_1 := Mem.lt M11.2.1
                  have z11_2 := Mem.lt M11.2.2.1
                  have c11_3_0 := Mem.cell (v := .slice (ptA gf) 1 fc) M11.2.2.2.1 0 rfl
                  have c11_3_1 := Mem.cell (v := .slice none 0 0) M11.2.2.2.1 1 rfl
                  have c11_3_2 := Mem.cell (v := .slice none 0 0) M11.2.2.2.1 2 rfl
                  have z11_3 := Mem.lt M11.2.2.2.1
                  have c11_4_0 := Mem.cell (v := .string ⟨#[1]⟩) M11.2.2.2.2.1 0 rfl
                  have c11_4_1 := Mem.cell (v := .string ⟨#[]⟩) M11.2.2.2.2.1 1 rfl
                  have z11_4 := Mem.lt M11.2.2.2.2.1
                  have z11_5 := Mem.lt M11.2.2.2.2.2.1
                  have z11_6 := Mem.lt M11.2.2.2.2.2.2.1
                  go_upto_region 11 with (fail)
                  refine wp_region_lit ?_
                  refine load_th rfl _ rfl (bw) rfl ((exW g fc2 gs sc)) M11.1 ?_
                  go_wp2_with fail
                  refine Calls.named ?_
                  intro W12 hW12
                  have hB12_ : Below w.heap.size w W12 := by rw [hW12]; exact hB11
                  have hw12_ : Laid W12 := by rw [hW12]; exact hw11
                  have M12_ := M11
                  rw [← hW12] at M12_
                  clear hW12
                  have ZZ12_0 := Lib.hid (Mem.lt M12_.1)
                  have ZZ12_1 := Lib.hid (Mem.lt M12_.2.1)
                  have ZZ12_2 := Lib.hid (Mem.lt M12_.2.2.1)
                  have ZZ12_3 := Lib.hid (Mem.lt M12_.2.2.2.1)
                  have ZZ12_4 := Lib.hid (Mem.lt M12_.2.2.2.2.1)
                  have ZZ12_5 := Lib.hid (Mem.lt M12_.2.2.2.2.2.1)
                  have ZZ12_6 := Lib.hid (Mem.lt M12_.2.2.2.2.2.2.1)
                  clear z11_0 z11_1 z11_2 c11_3_0 c11_3_1 c11_3_2 z11_3 c11_4_0 c11_4_1 z11_4 z11_5 z11_6
                  refine (ex_leave g fc2 gs sc hfc3 hfc4 hsc1 hsc2 cur _ M12_.2.2.2.2.2.2.1 HGT.out).mono ?_
                  rintro e w12 ⟨gk, kc, cap, rfl, hgk, hgkc, hgkt, hb12⟩
                  have hB12 := below_then hB12_ hb12
                  have hw12 := hw12_.below hb12
                  have M12 := M12_.below hb12
                  clear M12_ hB12_ hb12 hw12_
                  have z12_0 := Mem.lt M12.1
                  have z12_1 := Mem.lt M12.2.1
                  have z12_2 := Mem.lt M12.2.2.1
                  have c12_3_0 := Mem.cell (v := .slice (ptA gf) 1 fc) M12.2.2.2.1 0 rfl
                  have c12_3_1 := Mem.cell (v := .slice none 0 0) M12.2.2.2.1 1 rfl
                  have c12_3_2 := Mem.cell (v := .slice none 0 0) M12.2.2.2.1 2 rfl
                  have z12_3 := Mem.lt M12.2.2.2.1
                  have c12_4_0 := Mem.cell (v := .string ⟨#[1]⟩) M12.2.2.2.2.1 0 rfl
                  have c12_4_1 := Mem.cell (v := .string ⟨#[]⟩) M12.2.2.2.2.1 1 rfl
                  have z12_4 := Mem.lt M12.2.2.2.2.1
                  have z12_5 := Mem.lt M12.2.2.2.2.2.1
                  have z12_6 := Mem.lt M12.2.2.2.2.2.2.1
                  have oo11 := Mem.lt M12.2.1
                  have HGK := Lib.hid hgkt
                  clear hgkt
                  have ygk : bw < gk := by have := ZZ12_0.out; omega
                  replace M12 : Mem w12 [(bw, .cells (th ((exW g fc2 gs sc))) 39), (bv, .cells (th ((exV g fc2 gs sc))) 39), (w5.heap.size, .cells (th ((exU gf fc))) 39), (w1.heap.size, .cells #[.slice (ptA gf) 1 fc, .slice none 0 0, .slice none 0 0] 36), (w.heap.size, .cells #[.string ⟨#[1]⟩, .string ⟨#[]⟩] 24), (gf, .cells cf 104), (gs, .cells cur 56), (gk, .cells kc 28)] := ⟨M12.1, M12.2.1, M12.2.2.1, M12.2.2.2.1, M12.2.2.2.2.1, M12.2.2.2.2.2.1, M12.2.2.2.2.2.2.1, hgkc, trivial⟩
                  simp only
                  iterate 19 go_step
                  have oo12_0 : bw < w12.heap.size := Mem.lt M12.1
                  have oo12_1 : bv < w12.heap.size := Mem.lt M12.2.1
                  have oo12_2 : w5.heap.size < w12.heap.size := Mem.lt M12.2.2.1
                  have oo12_3 : w1.heap.size < w12.heap.size := Mem.lt M12.2.2.2.1
                  have oo12_4 : w.heap.size < w12.heap.size := Mem.lt M12.2.2.2.2.1
                  have oo12_5 : gf < w12.heap.size := Mem.lt M12.2.2.2.2.2.1
                  have oo12_6 : gs < w12.heap.size := Mem.lt M12.2.2.2.2.2.2.1
                  have oo12_7 : gk < w12.heap.size := Mem.lt M12.2.2.2.2.2.2.2.1
                  refine wpl_named ?_
                  intro w13 hW13
                  have hB13 : Below w.heap.size w w13 := by rw [hW13]; exact (below_al (below_al hB12 _) _)
                  have hw13 : Laid w13 := by rw [hW13]; exact ((hw12.alloc _).alloc _)
                  have M13 : Mem w13 [(w12.heap.size + 1, .cells (ob (ob0)) 50), (w12.heap.size, .cells (th (th0)) 39), (bw, .cells (th ((exW g fc2 gs sc))) 39), (bv, .cells (th ((exV g fc2 gs sc))) 39), (w5.heap.size, .cells (th ((exU gf fc))) 39), (w1.heap.size, .cells #[.slice (ptA gf) 1 fc, .slice none 0 0, .slice none 0 0] 36), (w.heap.size, .cells #[.string ⟨#[1]⟩, .string ⟨#[]⟩] 24), (gf, .cells cf 104), (gs, .cells cur 56), (gk, .cells kc 28)] := by rw [hW13]; exact ((M12).new' (w12.heap.size) (by rfl) (.cells (th (th0)) 39)).new' (w12.heap.size + 1) (by simp) (.cells (ob (ob0)) 50)
                  clear z12_0 z12_1 z12_2 c12_3_0 c12_3_1 c12_3_2 z12_3 c12_4_0 c12_4_1 z12_4 z12_5 z12_6
                  clear hW13
                  have z13_0 := Mem.lt M13.1
                  have z13_1 := Mem.lt M13.2.1
                  have z13_2 := Mem.lt M13.2.2.1
                  have z13_3 := Mem.lt M13.2.2.2.1
                  have z13_4 := Mem.lt M13.2.2.2.2.1
                  have c13_5_0 := Mem.cell (v := .slice (ptA gf) 1 fc) M13.2.2.2.2.2.1 0 rfl
                  have c13_5_1 := Mem.cell (v := .slice none 0 0) M13.2.2.2.2.2.1 1 rfl
                  have c13_5_2 := Mem.cell (v := .slice none 0 0) M13.2.2.2.2.2.1 2 rfl
                  have z13_5 := Mem.lt M13.2.2.2.2.2.1
                  have c13_6_0 := Mem.cell (v := .string ⟨#[1]⟩) M13.2.2.2.2.2.2.1 0 rfl
                  have c13_6_1 := Mem.cell (v := .string ⟨#[]⟩) M13.2.2.2.2.2.2.1 1 rfl
                  have z13_6 := Mem.lt M13.2.2.2.2.2.2.1
                  have z13_7 := Mem.lt M13.2.2.2.2.2.2.2.1
                  have z13_8 := Mem.lt M13.2.2.2.2.2.2.2.2.1
                  have z13_9 := Mem.lt M13.2.2.2.2.2.2.2.2.2.1
                  refine store_th rfl _ _ rfl (w12.heap.size) rfl (th0) ((exX g gs (ptA gk) cap)) rfl M13.2.1 (one_th _) ?_
                  intro w14 hW14
                  have hB14 : Below w.heap.size w w14 := by rw [hW14]; exact below_setCells (B := w.heap.size) hB13 (b := w12.heap.size) (by have := hB13.size; omega) 0 _
                  have hw14 : Laid w14 := hw0.below hB14
                  have M14 : Mem w14 [(w12.heap.size + 1, .cells (ob (ob0)) 50), (w12.heap.size, .cells (th ((exX g gs (ptA gk) cap))) 39), (bw, .cells (th ((exW g fc2 gs sc))) 39), (bv, .cells (th ((exV g fc2 gs sc))) 39), (w5.heap.size, .cells (th ((exU gf fc))) 39), (w1.heap.size, .cells #[.slice (ptA gf) 1 fc, .slice none 0 0, .slice none 0 0] 36), (w.heap.size, .cells #[.string ⟨#[1]⟩, .string ⟨#[]⟩] 24), (gf, .cells cf 104), (gs, .cells cur 56), (gk, .cells kc 28)] := by rw [hW14]; exact ⟨(setCells_other _ 0 _ _ (by omega)).trans M13.1, set_th M13.2.1 _, (setCells_other _ 0 _ _ (by omega)).trans M13.2.2.1, (setCells_other _ 0 _ _ (by omega)).trans M13.2.2.2.1, (setCells_other _ 0 _ _ (by omega)).trans M13.2.2.2.2.1, (setCells_other _ 0 _ _ (by omega)).trans M13.2.2.2.2.2.1, (setCells_other _ 0 _ _ (by omega)).trans M13.2.2.2.2.2.2.1, (setCells_other _ 0 _ _ (by omega)).trans M13.2.2.2.2.2.2.2.1, (setCells_other _ 0 _ _ (by omega)).trans M13.2.2.2.2.2.2.2.2.1, (setCells_other _ 0 _ _ (by omega)).trans M13.2.2.2.2.2.2.2.2.2.1, trivial⟩
                  clear z13_0 z13_1 z13_2 z13_3 z13_4 c13_5_0 c13_5_1 c13_5_2 z13_5 c13_6_0 c13_6_1 z13_6 z13_7 z13_8 z13_9
                  clear hW14
                  have z14_0 := Mem.lt M14.1
                  have z14_1 := Mem.lt M14.2.1
                  have z14_2 := Mem.lt M14.2.2.1
                  have z14_3 := Mem.lt M14.2.2.2.1
                  have z14_4 := Mem.lt M14.2.2.2.2.1
                  have c14_5_0 := Mem.cell (v := .slice (ptA gf) 1 fc) M14.2.2.2.2.2.1 0 rfl
                  have c14_5_1 := Mem.cell (v := .slice none 0 0) M14.2.2.2.2.2.1 1 rfl
                  have c14_5_2 := Mem.cell (v := .slice none 0 0) M14.2.2.2.2.2.1 2 rfl
                  have z14_5 := Mem.lt M14.2.2.2.2.2.1
                  have c14_6_0 := Mem.cell (v := .string ⟨#[1]⟩) M14.2.2.2.2.2.2.1 0 rfl
                  have c14_6_1 := Mem.cell (v := .string ⟨#[]⟩) M14.2.2.2.2.2.2.1 1 rfl
                  have z14_6 := Mem.lt M14.2.2.2.2.2.2.1
                  have z14_7 := Mem.lt M14.2.2.2.2.2.2.2.1
                  have z14_8 := Mem.lt M14.2.2.2.2.2.2.2.2.1
                  have z14_9 := Mem.lt M14.2.2.2.2.2.2.2.2.2.1
                  iterate 3 go_step
                  refine store_ob rfl _ _ rfl (w12.heap.size + 1) rfl (ob0) (exB) rfl M14.1 ?_
                  intro w15 hW15
                  have hB15 : Below w.heap.size w w15 := by rw [hW15]; exact below_setCells (B := w.heap.size) hB14 (b := w12.heap.size + 1) (by have := hB14.size; omega) 0 _
                  have hw15 : Laid w15 := hw0.below hB15
                  have M15 : Mem w15 [(w12.heap.size + 1, .cells (ob (exB)) 50), (w12.heap.size, .cells (th ((exX g gs (ptA gk) cap))) 39), (bw, .cells (th ((exW g fc2 gs sc))) 39), (bv, .cells (th ((exV g fc2 gs sc))) 39), (w5.heap.size, .cells (th ((exU gf fc))) 39), (w1.heap.size, .cells #[.slice (ptA gf) 1 fc, .slice none 0 0, .slice none 0 0] 36), (w.heap.size, .cells #[.string ⟨#[1]⟩, .string ⟨#[]⟩] 24), (gf, .cells cf 104), (gs, .cells cur 56), (gk, .cells kc 28)] := by rw [hW15]; exact ⟨set_ob M14.1 _, (setCells_other _ 0 _ _ (by omega)).trans M14.2.1, (setCells_other _ 0 _ _ (by omega)).trans M14.2.2.1, (setCells_other _ 0 _ _ (by omega)).trans M14.2.2.2.1, (setCells_other _ 0 _ _ (by omega)).trans M14.2.2.2.2.1, (setCells_other _ 0 _ _ (by omega)).trans M14.2.2.2.2.2.1, (setCells_other _ 0 _ _ (by omega)).trans M14.2.2.2.2.2.2.1, (setCells_other _ 0 _ _ (by omega)).trans M14.2.2.2.2.2.2.2.1, (setCells_other _ 0 _ _ (by omega)).trans M14.2.2.2.2.2.2.2.2.1, (setCells_other _ 0 _ _ (by omega)).trans M14.2.2.2.2.2.2.2.2.2.1, trivial⟩
                  clear z14_0 z14_1 z14_2 z14_3 z14_4 c14_5_0 c14_5_1 c14_5_2 z14_5 c14_6_0 c14_6_1 z14_6 z14_7 z14_8 z14_9
                  clear hW15
                  have z15_0 := Mem.lt M15.1
                  have z15_1 := Mem.lt M15.2.1
                  have z15_2 := Mem.lt M15.2.2.1
                  have z15_3 := Mem.lt M15.2.2.2.1
                  have z15_4 := Mem.lt M15.2.2.2.2.1
                  have c15_5_0 := Mem.cell (v := .slice (ptA gf) 1 fc) M15.2.2.2.2.2.1 0 rfl
                  have c15_5_1 := Mem.cell (v := .slice none 0 0) M15.2.2.2.2.2.1 1 rfl
                  have c15_5_2 := Mem.cell (v := .slice none 0 0) M15.2.2.2.2.2.1 2 rfl
                  have z15_5 := Mem.lt M15.2.2.2.2.2.1
                  have c15_6_0 := Mem.cell (v := .string ⟨#[1]⟩) M15.2.2.2.2.2.2.1 0 rfl
                  have c15_6_1 := Mem.cell (v := .string ⟨#[]⟩) M15.2.2.2.2.2.2.1 1 rfl
                  have z15_6 := Mem.lt M15.2.2.2.2.2.2.1
                  have z15_7 := Mem.lt M15.2.2.2.2.2.2.2.1
                  have z15_8 := Mem.lt M15.2.2.2.2.2.2.2.2.1
                  have z15_9 := Mem.lt M15.2.2.2.2.2.2.2.2.2.1
                  go_upto_region 12 with (fail)
                  refine wp_region_lit ?_
                  refine load_th rfl _ rfl (bv) rfl ((exV g fc2 gs sc)) M15.2.2.2.1 ?_
                  go_wp2_with fail
                  refine Calls.named ?_
                  intro W16 hW16
                  have hB16_ : Below w.heap.size w W16 := by rw [hW16]; exact hB15
                  have hw16_ : Laid W16 := by rw [hW16]; exact hw15
                  have M16_ := M15
                  rw [← hW16] at M16_
                  clear hW16
                  have ZZ16_0 := Lib.hid (Mem.lt M16_.1)
                  have ZZ16_1 := Lib.hid (Mem.lt M16_.2.1)
                  have ZZ16_2 := Lib.hid (Mem.lt M16_.2.2.1)
                  have ZZ16_3 := Lib.hid (Mem.lt M16_.2.2.2.1)
                  have ZZ16_4 := Lib.hid (Mem.lt M16_.2.2.2.2.1)
                  have ZZ16_5 := Lib.hid (Mem.lt M16_.2.2.2.2.2.1)
                  have ZZ16_6 := Lib.hid (Mem.lt M16_.2.2.2.2.2.2.1)
                  have ZZ16_7 := Lib.hid (Mem.lt M16_.2.2.2.2.2.2.2.1)
                  have ZZ16_8 := Lib.hid (Mem.lt M16_.2.2.2.2.2.2.2.2.1)
                  have ZZ16_9 := Lib.hid (Mem.lt M16_.2.2.2.2.2.2.2.2.2.1)
                  clear z15_0 z15_1 z15_2 z15_3 z15_4 c15_5_0 c15_5_1 c15_5_2 z15_5 c15_6_0 c15_6_1 z15_6 z15_7 z15_8 z15_9
                  refine (ex_leave2 g fc2 gs sc hfc3 hfc4 hsc1 hsc2 cur _ M16_.2.2.2.2.2.2.2.2.1 HGT.out).mono ?_
                  rintro e w16 ⟨X, rfl, hb16⟩
                  have hB16 := below_then hB16_ hb16
                  have hw16 := hw16_.below hb16
                  have M16 := M16_.below hb16
                  clear M16_ hB16_ hb16 hw16_
                  have z16_0 := Mem.lt M16.1
                  have z16_1 := Mem.lt M16.2.1
                  have z16_2 := Mem.lt M16.2.2.1
                  have z16_3 := Mem.lt M16.2.2.2.1
                  have z16_4 := Mem.lt M16.2.2.2.2.1
                  have c16_5_0 := Mem.cell (v := .slice (ptA gf) 1 fc) M16.2.2.2.2.2.1 0 rfl
                  have c16_5_1 := Mem.cell (v := .slice none 0 0) M16.2.2.2.2.2.1 1 rfl
                  have c16_5_2 := Mem.cell (v := .slice none 0 0) M16.2.2.2.2.2.1 2 rfl
                  have z16_5 := Mem.lt M16.2.2.2.2.2.1
                  have c16_6_0 := Mem.cell (v := .string ⟨#[1]⟩) M16.2.2.2.2.2.2.1 0 rfl
                  have c16_6_1 := Mem.cell (v := .string ⟨#[]⟩) M16.2.2.2.2.2.2.1 1 rfl
                  have z16_6 := Mem.lt M16.2.2.2.2.2.2.1
                  have z16_7 := Mem.lt M16.2.2.2.2.2.2.2.1
                  have z16_8 := Mem.lt M16.2.2.2.2.2.2.2.2.1
                  have z16_9 := Mem.lt M16.2.2.2.2.2.2.2.2.2.1
                  have oo12 := Mem.lt M16.2.2.2.1
                  simp only
                  iterate 19 go_step
                  have oo16_0 : w12.heap.size + 1 < w16.heap.size := Mem.lt M16.1
                  have oo16_1 : w12.heap.size < w16.heap.size := Mem.lt M16.2.1
                  have oo16_2 : bw < w16.heap.size := Mem.lt M16.2.2.1
                  have oo16_3 : bv < w16.heap.size := Mem.lt M16.2.2.2.1
                  have oo16_4 : w5.heap.size < w16.heap.size := Mem.lt M16.2.2.2.2.1
                  have oo16_5 : w1.heap.size < w16.heap.size := Mem.lt M16.2.2.2.2.2.1
                  have oo16_6 : w.heap.size < w16.heap.size := Mem.lt M16.2.2.2.2.2.2.1
                  have oo16_7 : gf < w16.heap.size := Mem.lt M16.2.2.2.2.2.2.2.1
                  have oo16_8 : gs < w16.heap.size := Mem.lt M16.2.2.2.2.2.2.2.2.1
                  have oo16_9 : gk < w16.heap.size := Mem.lt M16.2.2.2.2.2.2.2.2.2.1
                  refine wpl_named ?_
                  intro w17 hW17
                  have hB17 : Below w.heap.size w w17 := by rw [hW17]; exact (below_al (below_al hB16 _) _)
                  have hw17 : Laid w17 := by rw [hW17]; exact ((hw16.alloc _).alloc _)
                  have M17 : Mem w17 [(w16.heap.size + 1, .cells (ob (ob0)) 50), (w16.heap.size, .cells (th (th0)) 39), (w12.heap.size + 1, .cells (ob (exB)) 50), (w12.heap.size, .cells (th ((exX g gs (ptA gk) cap))) 39), (bw, .cells (th ((exW g fc2 gs sc))) 39), (bv, .cells (th ((exV g fc2 gs sc))) 39), (w5.heap.size, .cells (th ((exU gf fc))) 39), (w1.heap.size, .cells #[.slice (ptA gf) 1 fc, .slice none 0 0, .slice none 0 0] 36), (w.heap.size, .cells #[.string ⟨#[1]⟩, .string ⟨#[]⟩] 24), (gf, .cells cf 104), (gs, .cells cur 56), (gk, .cells kc 28)] := by rw [hW17]; exact ((M16).new' (w16.heap.size) (by rfl) (.cells (th (th0)) 39)).new' (w16.heap.size + 1) (by simp) (.cells (ob (ob0)) 50)
                  clear z16_0 z16_1 z16_2 z16_3 z16_4 c16_5_0 c16_5_1 c16_5_2 z16_5 c16_6_0 c16_6_1 z16_6 z16_7 z16_8 z16_9
                  clear hW17
                  have z17_0 := Mem.lt M17.1
                  have z17_1 := Mem.lt M17.2.1
                  have z17_2 := Mem.lt M17.2.2.1
                  have z17_3 := Mem.lt M17.2.2.2.1
                  have z17_4 := Mem.lt M17.2.2.2.2.1
                  have z17_5 := Mem.lt M17.2.2.2.2.2.1
                  have z17_6 := Mem.lt M17.2.2.2.2.2.2.1
                  have c17_7_0 := Mem.cell (v := .slice (ptA gf) 1 fc) M17.2.2.2.2.2.2.2.1 0 rfl
                  have c17_7_1 := Mem.cell (v := .slice none 0 0) M17.2.2.2.2.2.2.2.1 1 rfl
                  have c17_7_2 := Mem.cell (v := .slice none 0 0) M17.2.2.2.2.2.2.2.1 2 rfl
                  have z17_7 := Mem.lt M17.2.2.2.2.2.2.2.1
                  have c17_8_0 := Mem.cell (v := .string ⟨#[1]⟩) M17.2.2.2.2.2.2.2.2.1 0 rfl
                  have c17_8_1 := Mem.cell (v := .string ⟨#[]⟩) M17.2.2.2.2.2.2.2.2.1 1 rfl
                  have z17_8 := Mem.lt M17.2.2.2.2.2.2.2.2.1
                  have z17_9 := Mem.lt M17.2.2.2.2.2.2.2.2.2.1
                  have z17_10 := Mem.lt M17.2.2.2.2.2.2.2.2.2.2.1
                  have z17_11 := Mem.lt M17.2.2.2.2.2.2.2.2.2.2.2.1
                  refine store_th rfl _ _ rfl (w16.heap.size) rfl (th0) (X) rfl M17.2.1 (one_th _) ?_
                  intro w18 hW18
                  have hB18 : Below w.heap.size w w18 := by rw [hW18]; exact below_setCells (B := w.heap.size) hB17 (b := w16.heap.size) (by have := hB17.size; omega) 0 _
                  have hw18 : Laid w18 := hw0.below hB18
                  have M18 : Mem w18 [(w16.heap.size + 1, .cells (ob (ob0)) 50), (w16.heap.size, .cells (th (X)) 39), (w12.heap.size + 1, .cells (ob (exB)) 50), (w12.heap.size, .cells (th ((exX g gs (ptA gk) cap))) 39), (bw, .cells (th ((exW g fc2 gs sc))) 39), (bv, .cells (th ((exV g fc2 gs sc))) 39), (w5.heap.size, .cells (th ((exU gf fc))) 39), (w1.heap.size, .cells #[.slice (ptA gf) 1 fc, .slice none 0 0, .slice none 0 0] 36), (w.heap.size, .cells #[.string ⟨#[1]⟩, .string ⟨#[]⟩] 24), (gf, .cells cf 104), (gs, .cells cur 56), (gk, .cells kc 28)] := by rw [hW18]; exact ⟨(setCells_other _ 0 _ _ (by omega)).trans M17.1, set_th M17.2.1 _, (setCells_other _ 0 _ _ (by omega)).trans M17.2.2.1, (setCells_other _ 0 _ _ (by omega)).trans M17.2.2.2.1, (setCells_other _ 0 _ _ (by omega)).trans M17.2.2.2.2.1, (setCells_other _ 0 _ _ (by omega)).trans M17.2.2.2.2.2.1, (setCells_other _ 0 _ _ (by omega)).trans M17.2.2.2.2.2.2.1, (setCells_other _ 0 _ _ (by omega)).trans M17.2.2.2.2.2.2.2.1, (setCells_other _ 0 _ _ (by omega)).trans M17.2.2.2.2.2.2.2.2.1, (setCells_other _ 0 _ _ (by omega)).trans M17.2.2.2.2.2.2.2.2.2.1, (setCells_other _ 0 _ _ (by omega)).trans M17.2.2.2.2.2.2.2.2.2.2.1, (setCells_other _ 0 _ _ (by omega)).trans M17.2.2.2.2.2.2.2.2.2.2.2.1, trivial⟩
                  clear z17_0 z17_1 z17_2 z17_3 z17_4 z17_5 z17_6 c17_7_0 c17_7_1 c17_7_2 z17_7 c17_8_0 c17_8_1 z17_8 z17_9 z17_10 z17_11
                  clear hW18
                  have z18_0 := Mem.lt M18.1
                  have z18_1 := Mem.lt M18.2.1
                  have z18_2 := Mem.lt M18.2.2.1
                  have z18_3 := Mem.lt M18.2.2.2.1
                  have z18_4 := Mem.lt M18.2.2.2.2.1
                  have z18_5 := Mem.lt M18.2.2.2.2.2.1
                  have z18_6 := Mem.lt M18.2.2.2.2.2.2.1
                  have c18_7_0 := Mem.cell (v := .slice (ptA gf) 1 fc) M18.2.2.2.2.2.2.2.1 0 rfl
                  have c18_7_1 := Mem.cell (v := .slice none 0 0) M18.2.2.2.2.2.2.2.1 1 rfl
                  have c18_7_2 := Mem.cell (v := .slice none 0 0) M18.2.2.2.2.2.2.2.1 2 rfl
                  have z18_7 := Mem.lt M18.2.2.2.2.2.2.2.1
                  have c18_8_0 := Mem.cell (v := .string ⟨#[1]⟩) M18.2.2.2.2.2.2.2.2.1 0 rfl
                  have c18_8_1 := Mem.cell (v := .string ⟨#[]⟩) M18.2.2.2.2.2.2.2.2.1 1 rfl
                  have z18_8 := Mem.lt M18.2.2.2.2.2.2.2.2.1
                  have z18_9 := Mem.lt M18.2.2.2.2.2.2.2.2.2.1
                  have z18_10 := Mem.lt M18.2.2.2.2.2.2.2.2.2.2.1
                  have z18_11 := Mem.lt M18.2.2.2.2.2.2.2.2.2.2.2.1
                  iterate 3 go_step
                  refine store_ob rfl _ _ rfl (w16.heap.size + 1) rfl (ob0) (exP) rfl M18.1 ?_
                  intro w19 hW19
                  have hB19 : Below w.heap.size w w19 := by rw [hW19]; exact below_setCells (B := w.heap.size) hB18 (b := w16.heap.size + 1) (by have := hB18.size; omega) 0 _
                  have hw19 : Laid w19 := hw0.below hB19
                  have M19 : Mem w19 [(w16.heap.size + 1, .cells (ob (exP)) 50), (w16.heap.size, .cells (th (X)) 39), (w12.heap.size + 1, .cells (ob (exB)) 50), (w12.heap.size, .cells (th ((exX g gs (ptA gk) cap))) 39), (bw, .cells (th ((exW g fc2 gs sc))) 39), (bv, .cells (th ((exV g fc2 gs sc))) 39), (w5.heap.size, .cells (th ((exU gf fc))) 39), (w1.heap.size, .cells #[.slice (ptA gf) 1 fc, .slice none 0 0, .slice none 0 0] 36), (w.heap.size, .cells #[.string ⟨#[1]⟩, .string ⟨#[]⟩] 24), (gf, .cells cf 104), (gs, .cells cur 56), (gk, .cells kc 28)] := by rw [hW19]; exact ⟨set_ob M18.1 _, (setCells_other _ 0 _ _ (by omega)).trans M18.2.1, (setCells_other _ 0 _ _ (by omega)).trans M18.2.2.1, (setCells_other _ 0 _ _ (by omega)).trans M18.2.2.2.1, (setCells_other _ 0 _ _ (by omega)).trans M18.2.2.2.2.1, (setCells_other _ 0 _ _ (by omega)).trans M18.2.2.2.2.2.1, (setCells_other _ 0 _ _ (by omega)).trans M18.2.2.2.2.2.2.1, (setCells_other _ 0 _ _ (by omega)).trans M18.2.2.2.2.2.2.2.1, (setCells_other _ 0 _ _ (by omega)).trans M18.2.2.2.2.2.2.2.2.1, (setCells_other _ 0 _ _ (by omega)).trans M18.2.2.2.2.2.2.2.2.2.1, (setCells_other _ 0 _ _ (by omega)).trans M18.2.2.2.2.2.2.2.2.2.2.1, (setCells_other _ 0 _ _ (by omega)).trans M18.2.2.2.2.2.2.2.2.2.2.2.1, trivial⟩
                  clear z18_0 z18_1 z18_2 z18_3 z18_4 z18_5 z18_6 c18_7_0 c18_7_1 c18_7_2 z18_7 c18_8_0 c18_8_1 z18_8 z18_9 z18_10 z18_11
                  clear hW19
                  have z19_0 := Mem.lt M19.1
                  have z19_1 := Mem.lt M19.2.1
                  have z19_2 := Mem.lt M19.2.2.1
                  have z19_3 := Mem.lt M19.2.2.2.1
                  have z19_4 := Mem.lt M19.2.2.2.2.1
                  have z19_5 := Mem.lt M19.2.2.2.2.2.1
                  have z19_6 := Mem.lt M19.2.2.2.2.2.2.1
                  have c19_7_0 := Mem.cell (v := .slice (ptA gf) 1 fc) M19.2.2.2.2.2.2.2.1 0 rfl
                  have c19_7_1 := Mem.cell (v := .slice none 0 0) M19.2.2.2.2.2.2.2.1 1 rfl
                  have c19_7_2 := Mem.cell (v := .slice none 0 0) M19.2.2.2.2.2.2.2.1 2 rfl
                  have z19_7 := Mem.lt M19.2.2.2.2.2.2.2.1
                  have c19_8_0 := Mem.cell (v := .string ⟨#[1]⟩) M19.2.2.2.2.2.2.2.2.1 0 rfl
                  have c19_8_1 := Mem.cell (v := .string ⟨#[]⟩) M19.2.2.2.2.2.2.2.2.1 1 rfl
                  have z19_8 := Mem.lt M19.2.2.2.2.2.2.2.2.1
                  have z19_9 := Mem.lt M19.2.2.2.2.2.2.2.2.2.1
                  have z19_10 := Mem.lt M19.2.2.2.2.2.2.2.2.2.2.1
                  have z19_11 := Mem.lt M19.2.2.2.2.2.2.2.2.2.2.2.1
                  replace M19 : Mem w19 [(bv, .cells (th ((exV g fc2 gs sc))) 39), (w.heap.size, .cells #[.string ⟨#[1]⟩, .string ⟨#[]⟩] 24), (w1.heap.size, .cells #[.slice (ptA gf) 1 fc, .slice none 0 0, .slice none 0 0] 36), (w5.heap.size, .cells (th ((exU gf fc))) 39), (bw, .cells (th ((exW g fc2 gs sc))) 39), (w12.heap.size, .cells (th ((exX g gs (ptA gk) cap))) 39), (w12.heap.size + 1, .cells (ob (exB)) 50), (w16.heap.size + 1, .cells (ob (exP)) 50), (gs, .cells cur 56), (gk, .cells kc 28)] := ⟨M19.2.2.2.2.2.1, M19.2.2.2.2.2.2.2.2.1, M19.2.2.2.2.2.2.2.1, M19.2.2.2.2.2.2.1, M19.2.2.2.2.1, M19.2.2.2.1, M19.2.2.1, M19.1, M19.2.2.2.2.2.2.2.2.2.2.1, M19.2.2.2.2.2.2.2.2.2.2.2.1, trivial⟩
                  clear z19_0 z19_1 z19_2 z19_3 z19_4 z19_5 z19_6 c19_7_0 c19_7_1 c19_7_2 z19_7 c19_8_0 c19_8_1 z19_8 z19_9 z19_10 z19_11
                  have z19_0 := Mem.lt M19.1
                  have c19_1_0 := Mem.cell (v := .string ⟨#[1]⟩) M19.2.1 0 rfl
                  have c19_1_1 := Mem.cell (v := .string ⟨#[]⟩) M19.2.1 1 rfl
                  have z19_1 := Mem.lt M19.2.1
                  have c19_2_0 := Mem.cell (v := .slice (ptA gf) 1 fc) M19.2.2.1 0 rfl
                  have c19_2_1 := Mem.cell (v := .slice none 0 0) M19.2.2.1 1 rfl
                  have c19_2_2 := Mem.cell (v := .slice none 0 0) M19.2.2.1 2 rfl
                  have z19_2 := Mem.lt M19.2.2.1
                  have z19_3 := Mem.lt M19.2.2.2.1
                  have z19_4 := Mem.lt M19.2.2.2.2.1
                  have z19_5 := Mem.lt M19.2.2.2.2.2.1
                  have z19_6 := Mem.lt M19.2.2.2.2.2.2.1
                  have z19_7 := Mem.lt M19.2.2.2.2.2.2.2.1
                  have z19_8 := Mem.lt M19.2.2.2.2.2.2.2.2.1
                  have z19_9 := Mem.lt M19.2.2.2.2.2.2.2.2.2.1
                  have c19_0_2 := Mem.cell (v := .string (exV g fc2 gs sc).cS) M19.1 2 rfl
                  have c19_0_3 := Mem.cell (v := .string (exV g fc2 gs sc).cI) M19.1 3 rfl
                  have f13 := fun j => Mem.free M19.1 j
                  go_upto_region 14 with (fail)
                  clear f13
                  have hX19_0 : (w19.setCells (bv) 2 [.string ⟨#[1]⟩, .string ⟨#[]⟩]).heap[bv]? = some (.cells (th ({ (exV g fc2 gs sc) with cS := ⟨#[1]⟩, cI := ⟨#[]⟩ })) 39) := by rw [setCells_block [.string ⟨#[1]⟩, .string ⟨#[]⟩] 2 _ _ ((M19).1) (by simp)]; rfl
                  have hY19_0 := below_setCells (B := w.heap.size) hB19 (b := bv) (by have := hB19.size; omega) 2 [.string ⟨#[1]⟩, .string ⟨#[]⟩]
                  refine wp_named ?_
                  intro w20 hW20
                  have hB20 : Below w.heap.size w w20 := by rw [hW20]; exact hY19_0
                  have hw20 : Laid w20 := hw0.below hB20
                  have M20 : Mem w20 [(bv, .cells (th ({ (exV g fc2 gs sc) with cS := ⟨#[1]⟩, cI := ⟨#[]⟩ })) 39), (w.heap.size, .cells #[.string ⟨#[1]⟩, .string ⟨#[]⟩] 24), (w1.heap.size, .cells #[.slice (ptA gf) 1 fc, .slice none 0 0, .slice none 0 0] 36), (w5.heap.size, .cells (th ((exU gf fc))) 39), (bw, .cells (th ((exW g fc2 gs sc))) 39), (w12.heap.size, .cells (th ((exX g gs (ptA gk) cap))) 39), (w12.heap.size + 1, .cells (ob (exB)) 50), (w16.heap.size + 1, .cells (ob (exP)) 50), (gs, .cells cur 56), (gk, .cells kc 28)] := by rw [hW20]; exact ⟨hX19_0, (setCells_other [.string ⟨#[1]⟩, .string ⟨#[]⟩] 2 _ _ (by omega)).trans ((M19).2.1), (setCells_other [.string ⟨#[1]⟩, .string ⟨#[]⟩] 2 _ _ (by omega)).trans ((M19).2.2.1), (setCells_other [.string ⟨#[1]⟩, .string ⟨#[]⟩] 2 _ _ (by omega)).trans ((M19).2.2.2.1), (setCells_other [.string ⟨#[1]⟩, .string ⟨#[]⟩] 2 _ _ (by omega)).trans ((M19).2.2.2.2.1), (setCells_other [.string ⟨#[1]⟩, .string ⟨#[]⟩] 2 _ _ (by omega)).trans ((M19).2.2.2.2.2.1), (setCells_other [.string ⟨#[1]⟩, .string ⟨#[]⟩] 2 _ _ (by omega)).trans ((M19).2.2.2.2.2.2.1), (setCells_other [.string ⟨#[1]⟩, .string ⟨#[]⟩] 2 _ _ (by omega)).trans ((M19).2.2.2.2.2.2.2.1), (setCells_other [.string ⟨#[1]⟩, .string ⟨#[]⟩] 2 _ _ (by omega)).trans ((M19).2.2.2.2.2.2.2.2.1), (setCells_other [.string ⟨#[1]⟩, .string ⟨#[]⟩] 2 _ _ (by omega)).trans ((M19).2.2.2.2.2.2.2.2.2.1), trivial⟩
                  clear z19_0 c19_1_0 c19_1_1 z19_1 c19_2_0 c19_2_1 c19_2_2 z19_2 z19_3 z19_4 z19_5 z19_6 z19_7 z19_8 z19_9 c19_0_2 c19_0_3
                  clear hW20 hX19_0 hY19_0
                  have z20_0 := Mem.lt M20.1
                  have c20_1_0 := Mem.cell (v := .string ⟨#[1]⟩) M20.2.1 0 rfl
                  have c20_1_1 := Mem.cell (v := .string ⟨#[]⟩) M20.2.1 1 rfl
                  have z20_1 := Mem.lt M20.2.1
                  have c20_2_0 := Mem.cell (v := .slice (ptA gf) 1 fc) M20.2.2.1 0 rfl
                  have c20_2_1 := Mem.cell (v := .slice none 0 0) M20.2.2.1 1 rfl
                  have c20_2_2 := Mem.cell (v := .slice none 0 0) M20.2.2.1 2 rfl
                  have z20_2 := Mem.lt M20.2.2.1
                  have z20_3 := Mem.lt M20.2.2.2.1
                  have z20_4 := Mem.lt M20.2.2.2.2.1
                  have z20_5 := Mem.lt M20.2.2.2.2.2.1
                  have z20_6 := Mem.lt M20.2.2.2.2.2.2.1
                  have z20_7 := Mem.lt M20.2.2.2.2.2.2.2.1
                  have z20_8 := Mem.lt M20.2.2.2.2.2.2.2.2.1
                  have z20_9 := Mem.lt M20.2.2.2.2.2.2.2.2.2.1
                  replace M20 : Mem w20 [(bv, .cells (th ((exV2 g fc2 gs sc))) 39), (w.heap.size, .cells #[.string ⟨#[1]⟩, .string ⟨#[]⟩] 24), (w1.heap.size, .cells #[.slice (ptA gf) 1 fc, .slice none 0 0, .slice none 0 0] 36), (w5.heap.size, .cells (th ((exU gf fc))) 39), (bw, .cells (th ((exW g fc2 gs sc))) 39), (w12.heap.size, .cells (th ((exX g gs (ptA gk) cap))) 39), (w12.heap.size + 1, .cells (ob (exB)) 50), (w16.heap.size + 1, .cells (ob (exP)) 50), (gs, .cells cur 56), (gk, .cells kc 28)] := M20
                  refine wp_region_lit ?_
                  refine load_th rfl _ rfl (bv) rfl ((exV2 g fc2 gs sc)) M20.1 ?_
                  go_wp2_with fail
                  refine Calls.named ?_
                  intro W21 hW21
                  have hB21_ : Below w.heap.size w W21 := by rw [hW21]; exact hB20
                  have hw21_ : Laid W21 := by rw [hW21]; exact hw20
                  have M21_ := M20
                  rw [← hW21] at M21_
                  clear hW21
                  have ZZ21_0 := Lib.hid (Mem.lt M21_.1)
                  have ZZ21_1 := Lib.hid (Mem.lt M21_.2.1)
                  have ZZ21_2 := Lib.hid (Mem.lt M21_.2.2.1)
                  have ZZ21_3 := Lib.hid (Mem.lt M21_.2.2.2.1)
                  have ZZ21_4 := Lib.hid (Mem.lt M21_.2.2.2.2.1)
                  have ZZ21_5 := Lib.hid (Mem.lt M21_.2.2.2.2.2.1)
                  have ZZ21_6 := Lib.hid (Mem.lt M21_.2.2.2.2.2.2.1)
                  have ZZ21_7 := Lib.hid (Mem.lt M21_.2.2.2.2.2.2.2.1)
                  have ZZ21_8 := Lib.hid (Mem.lt M21_.2.2.2.2.2.2.2.2.1)
                  have ZZ21_9 := Lib.hid (Mem.lt M21_.2.2.2.2.2.2.2.2.2.1)
                  clear z20_0 c20_1_0 c20_1_1 z20_1 c20_2_0 c20_2_1 c20_2_2 z20_2 z20_3 z20_4 z20_5 z20_6 z20_7 z20_8 z20_9
                  refine (ex_hide g fc2 gs sc hfc3 hfc4 hsc1 hsc2 cur _ M21_.2.2.2.2.2.2.2.2.1 HGT.out).mono ?_
                  rintro e w21 ⟨rfl, hb21⟩
                  have hB21 := below_then hB21_ hb21
                  have hw21 := hw21_.below hb21
                  have M21 := M21_.below hb21
                  clear M21_ hB21_ hb21 hw21_
                  have z21_0 := Mem.lt M21.1
                  have c21_1_0 := Mem.cell (v := .string ⟨#[1]⟩) M21.2.1 0 rfl
                  have c21_1_1 := Mem.cell (v := .string ⟨#[]⟩) M21.2.1 1 rfl
                  have z21_1 := Mem.lt M21.2.1
                  have c21_2_0 := Mem.cell (v := .slice (ptA gf) 1 fc) M21.2.2.1 0 rfl
                  have c21_2_1 := Mem.cell (v := .slice none 0 0) M21.2.2.1 1 rfl
                  have c21_2_2 := Mem.cell (v := .slice none 0 0) M21.2.2.1 2 rfl
                  have z21_2 := Mem.lt M21.2.2.1
                  have z21_3 := Mem.lt M21.2.2.2.1
                  have z21_4 := Mem.lt M21.2.2.2.2.1
                  have z21_5 := Mem.lt M21.2.2.2.2.2.1
                  have z21_6 := Mem.lt M21.2.2.2.2.2.2.1
                  have z21_7 := Mem.lt M21.2.2.2.2.2.2.2.1
                  have z21_8 := Mem.lt M21.2.2.2.2.2.2.2.2.1
                  have z21_9 := Mem.lt M21.2.2.2.2.2.2.2.2.2.1
                  simp only
                  iterate 13 go_step
                  have oo21_0 : bv < w21.heap.size := Mem.lt M21.1
                  have oo21_1 : w.heap.size < w21.heap.size := Mem.lt M21.2.1
                  have oo21_2 : w1.heap.size < w21.heap.size := Mem.lt M21.2.2.1
                  have oo21_3 : w5.heap.size < w21.heap.size := Mem.lt M21.2.2.2.1
                  have oo21_4 : bw < w21.heap.size := Mem.lt M21.2.2.2.2.1
                  have oo21_5 : w12.heap.size < w21.heap.size := Mem.lt M21.2.2.2.2.2.1
                  have oo21_6 : w12.heap.size + 1 < w21.heap.size := Mem.lt M21.2.2.2.2.2.2.1
                  have oo21_7 : w16.heap.size + 1 < w21.heap.size := Mem.lt M21.2.2.2.2.2.2.2.1
                  have oo21_8 : gs < w21.heap.size := Mem.lt M21.2.2.2.2.2.2.2.2.1
                  have oo21_9 : gk < w21.heap.size := Mem.lt M21.2.2.2.2.2.2.2.2.2.1
                  refine wpl_named ?_
                  intro w22 hW22
                  have hB22 : Below w.heap.size w w22 := by rw [hW22]; exact (below_al hB21 _)
                  have hw22 : Laid w22 := by rw [hW22]; exact (hw21.alloc _)
                  have M22 : Mem w22 [(w21.heap.size, .cells (th (th0)) 39), (bv, .cells (th ((exV2 g fc2 gs sc))) 39), (w.heap.size, .cells #[.string ⟨#[1]⟩, .string ⟨#[]⟩] 24), (w1.heap.size, .cells #[.slice (ptA gf) 1 fc, .slice none 0 0, .slice none 0 0] 36), (w5.heap.size, .cells (th ((exU gf fc))) 39), (bw, .cells (th ((exW g fc2 gs sc))) 39), (w12.heap.size, .cells (th ((exX g gs (ptA gk) cap))) 39), (w12.heap.size + 1, .cells (ob (exB)) 50), (w16.heap.size + 1, .cells (ob (exP)) 50), (gs, .cells cur 56), (gk, .cells kc 28)] := by rw [hW22]; exact (M21).new' (w21.heap.size) (by rfl) (.cells (th (th0)) 39)
                  clear z21_0 c21_1_0 c21_1_1 z21_1 c21_2_0 c21_2_1 c21_2_2 z21_2 z21_3 z21_4 z21_5 z21_6 z21_7 z21_8 z21_9
                  clear hW22
                  have z22_0 := Mem.lt M22.1
                  have z22_1 := Mem.lt M22.2.1
                  have c22_2_0 := Mem.cell (v := .string ⟨#[1]⟩) M22.2.2.1 0 rfl
                  have c22_2_1 := Mem.cell (v := .string ⟨#[]⟩) M22.2.2.1 1 rfl
                  have z22_2 := Mem.lt M22.2.2.1
                  have c22_3_0 := Mem.cell (v := .slice (ptA gf) 1 fc) M22.2.2.2.1 0 rfl
                  have c22_3_1 := Mem.cell (v := .slice none 0 0) M22.2.2.2.1 1 rfl
                  have c22_3_2 := Mem.cell (v := .slice none 0 0) M22.2.2.2.1 2 rfl
                  have z22_3 := Mem.lt M22.2.2.2.1
                  have z22_4 := Mem.lt M22.2.2.2.2.1
                  have z22_5 := Mem.lt M22.2.2.2.2.2.1
                  have z22_6 := Mem.lt M22.2.2.2.2.2.2.1
                  have z22_7 := Mem.lt M22.2.2.2.2.2.2.2.1
                  have z22_8 := Mem.lt M22.2.2.2.2.2.2.2.2.1
                  have z22_9 := Mem.lt M22.2.2.2.2.2.2.2.2.2.1
                  have z22_10 := Mem.lt M22.2.2.2.2.2.2.2.2.2.2.1
                  refine store_th rfl _ _ rfl (w21.heap.size) rfl (th0) ((exH g gs)) rfl M22.1 (one_th _) ?_
                  intro w23 hW23
                  have hB23 : Below w.heap.size w w23 := by rw [hW23]; exact below_setCells (B := w.heap.size) hB22 (b := w21.heap.size) (by have := hB22.size; omega) 0 _
                  have hw23 : Laid w23 := hw0.below hB23
                  have M23 : Mem w23 [(w21.heap.size, .cells (th ((exH g gs))) 39), (bv, .cells (th ((exV2 g fc2 gs sc))) 39), (w.heap.size, .cells #[.string ⟨#[1]⟩, .string ⟨#[]⟩] 24), (w1.heap.size, .cells #[.slice (ptA gf) 1 fc, .slice none 0 0, .slice none 0 0] 36), (w5.heap.size, .cells (th ((exU gf fc))) 39), (bw, .cells (th ((exW g fc2 gs sc))) 39), (w12.heap.size, .cells (th ((exX g gs (ptA gk) cap))) 39), (w12.heap.size + 1, .cells (ob (exB)) 50), (w16.heap.size + 1, .cells (ob (exP)) 50), (gs, .cells cur 56), (gk, .cells kc 28)] := by rw [hW23]; exact ⟨set_th M22.1 _, (setCells_other _ 0 _ _ (by omega)).trans M22.2.1, (setCells_other _ 0 _ _ (by omega)).trans M22.2.2.1, (setCells_other _ 0 _ _ (by omega)).trans M22.2.2.2.1, (setCells_other _ 0 _ _ (by omega)).trans M22.2.2.2.2.1, (setCells_other _ 0 _ _ (by omega)).trans M22.2.2.2.2.2.1, (setCells_other _ 0 _ _ (by omega)).trans M22.2.2.2.2.2.2.1, (setCells_other _ 0 _ _ (by omega)).trans M22.2.2.2.2.2.2.2.1, (setCells_other _ 0 _ _ (by omega)).trans M22.2.2.2.2.2.2.2.2.1, (setCells_other _ 0 _ _ (by omega)).trans M22.2.2.2.2.2.2.2.2.2.1, (setCells_other _ 0 _ _ (by omega)).trans M22.2.2.2.2.2.2.2.2.2.2.1, trivial⟩
                  clear z22_0 z22_1 c22_2_0 c22_2_1 z22_2 c22_3_0 c22_3_1 c22_3_2 z22_3 z22_4 z22_5 z22_6 z22_7 z22_8 z22_9 z22_10
                  clear hW23
                  have z23_0 := Mem.lt M23.1
                  have z23_1 := Mem.lt M23.2.1
                  have c23_2_0 := Mem.cell (v := .string ⟨#[1]⟩) M23.2.2.1 0 rfl
                  have c23_2_1 := Mem.cell (v := .string ⟨#[]⟩) M23.2.2.1 1 rfl
                  have z23_2 := Mem.lt M23.2.2.1
                  have c23_3_0 := Mem.cell (v := .slice (ptA gf) 1 fc) M23.2.2.2.1 0 rfl
                  have c23_3_1 := Mem.cell (v := .slice none 0 0) M23.2.2.2.1 1 rfl
                  have c23_3_2 := Mem.cell (v := .slice none 0 0) M23.2.2.2.1 2 rfl
                  have z23_3 := Mem.lt M23.2.2.2.1
                  have z23_4 := Mem.lt M23.2.2.2.2.1
                  have z23_5 := Mem.lt M23.2.2.2.2.2.1
                  have z23_6 := Mem.lt M23.2.2.2.2.2.2.1
                  have z23_7 := Mem.lt M23.2.2.2.2.2.2.2.1
                  have z23_8 := Mem.lt M23.2.2.2.2.2.2.2.2.1
                  have z23_9 := Mem.lt M23.2.2.2.2.2.2.2.2.2.1
                  have z23_10 := Mem.lt M23.2.2.2.2.2.2.2.2.2.2.1
                  go_upto_region 15 with (fail)
                  go_wp2_with fail
                  refine Calls.named ?_
                  intro W24 hW24
                  have hB24_ : Below w.heap.size w W24 := by rw [hW24]; exact hB23
                  have hw24_ : Laid W24 := by rw [hW24]; exact hw23
                  have M24_ := M23
                  rw [← hW24] at M24_
                  clear hW24
                  have ZZ24_0 := Lib.hid (Mem.lt M24_.1)
                  have ZZ24_1 := Lib.hid (Mem.lt M24_.2.1)
                  have ZZ24_2 := Lib.hid (Mem.lt M24_.2.2.1)
                  have ZZ24_3 := Lib.hid (Mem.lt M24_.2.2.2.1)
                  have ZZ24_4 := Lib.hid (Mem.lt M24_.2.2.2.2.1)
                  have ZZ24_5 := Lib.hid (Mem.lt M24_.2.2.2.2.2.1)
                  have ZZ24_6 := Lib.hid (Mem.lt M24_.2.2.2.2.2.2.1)
                  have ZZ24_7 := Lib.hid (Mem.lt M24_.2.2.2.2.2.2.2.1)
                  have ZZ24_8 := Lib.hid (Mem.lt M24_.2.2.2.2.2.2.2.2.1)
                  have ZZ24_9 := Lib.hid (Mem.lt M24_.2.2.2.2.2.2.2.2.2.1)
                  have ZZ24_10 := Lib.hid (Mem.lt M24_.2.2.2.2.2.2.2.2.2.2.1)
                  clear z23_0 z23_1 c23_2_0 c23_2_1 z23_2 c23_3_0 c23_3_1 c23_3_2 z23_3 z23_4 z23_5 z23_6 z23_7 z23_8 z23_9 z23_10
                  refine (new_any ⟨#[48]⟩ ⟨#[1]⟩ ⟨#[]⟩ ⟨#[1]⟩ ⟨#[]⟩ ⟨ptA gf, 1, fc⟩ ⟨none, 0, 0⟩ ⟨none, 0, 0⟩ 1 _).mono ?_
                  rintro e w24 ⟨rfl, hb24⟩
                  have hB24 := below_then hB24_ hb24
                  have hw24 := hw24_.below hb24
                  have M24 := M24_.below hb24
                  clear M24_ hB24_ hb24 hw24_
                  have z24_0 := Mem.lt M24.1
                  have z24_1 := Mem.lt M24.2.1
                  have c24_2_0 := Mem.cell (v := .string ⟨#[1]⟩) M24.2.2.1 0 rfl
                  have c24_2_1 := Mem.cell (v := .string ⟨#[]⟩) M24.2.2.1 1 rfl
                  have z24_2 := Mem.lt M24.2.2.1
                  have c24_3_0 := Mem.cell (v := .slice (ptA gf) 1 fc) M24.2.2.2.1 0 rfl
                  have c24_3_1 := Mem.cell (v := .slice none 0 0) M24.2.2.2.1 1 rfl
                  have c24_3_2 := Mem.cell (v := .slice none 0 0) M24.2.2.2.1 2 rfl
                  have z24_3 := Mem.lt M24.2.2.2.1
                  have z24_4 := Mem.lt M24.2.2.2.2.1
                  have z24_5 := Mem.lt M24.2.2.2.2.2.1
                  have z24_6 := Mem.lt M24.2.2.2.2.2.2.1
                  have z24_7 := Mem.lt M24.2.2.2.2.2.2.2.1
                  have z24_8 := Mem.lt M24.2.2.2.2.2.2.2.2.1
                  have z24_9 := Mem.lt M24.2.2.2.2.2.2.2.2.2.1
                  have z24_10 := Mem.lt M24.2.2.2.2.2.2.2.2.2.2.1
                  go_wp2_with fail
                  refine Calls.named ?_
                  intro W25 hW25
                  have hB25_ : Below w.heap.size w W25 := by rw [hW25]; exact hB24
                  have hw25_ : Laid W25 := by rw [hW25]; exact hw24
                  have M25_ := M24
                  rw [← hW25] at M25_
                  clear hW25
                  have ZZ25_0 := Lib.hid (Mem.lt M25_.1)
                  have ZZ25_1 := Lib.hid (Mem.lt M25_.2.1)
                  have ZZ25_2 := Lib.hid (Mem.lt M25_.2.2.1)
                  have ZZ25_3 := Lib.hid (Mem.lt M25_.2.2.2.1)
                  have ZZ25_4 := Lib.hid (Mem.lt M25_.2.2.2.2.1)
                  have ZZ25_5 := Lib.hid (Mem.lt M25_.2.2.2.2.2.1)
                  have ZZ25_6 := Lib.hid (Mem.lt M25_.2.2.2.2.2.2.1)
                  have ZZ25_7 := Lib.hid (Mem.lt M25_.2.2.2.2.2.2.2.1)
                  have ZZ25_8 := Lib.hid (Mem.lt M25_.2.2.2.2.2.2.2.2.1)
                  have ZZ25_9 := Lib.hid (Mem.lt M25_.2.2.2.2.2.2.2.2.2.1)
                  have ZZ25_10 := Lib.hid (Mem.lt M25_.2.2.2.2.2.2.2.2.2.2.1)
                  clear z24_0 z24_1 c24_2_0 c24_2_1 z24_2 c24_3_0 c24_3_1 c24_3_2 z24_3 z24_4 z24_5 z24_6 z24_7 z24_8 z24_9 z24_10
                  refine (ex_hideno gf fc _).mono ?_
                  rintro e w25 ⟨rfl, hb25⟩
                  have hB25 := below_then hB25_ hb25
                  have hw25 := hw25_.below hb25
                  have M25 := M25_.below hb25
                  clear M25_ hB25_ hb25 hw25_
                  have z25_0 := Mem.lt M25.1
                  have z25_1 := Mem.lt M25.2.1
                  have c25_2_0 := Mem.cell (v := .string ⟨#[1]⟩) M25.2.2.1 0 rfl
                  have c25_2_1 := Mem.cell (v := .string ⟨#[]⟩) M25.2.2.1 1 rfl
                  have z25_2 := Mem.lt M25.2.2.1
                  have c25_3_0 := Mem.cell (v := .slice (ptA gf) 1 fc) M25.2.2.2.1 0 rfl
                  have c25_3_1 := Mem.cell (v := .slice none 0 0) M25.2.2.2.1 1 rfl
                  have c25_3_2 := Mem.cell (v := .slice none 0 0) M25.2.2.2.1 2 rfl
                  have z25_3 := Mem.lt M25.2.2.2.1
                  have z25_4 := Mem.lt M25.2.2.2.2.1
                  have z25_5 := Mem.lt M25.2.2.2.2.2.1
                  have z25_6 := Mem.lt M25.2.2.2.2.2.2.1
                  have z25_7 := Mem.lt M25.2.2.2.2.2.2.2.1
                  have z25_8 := Mem.lt M25.2.2.2.2.2.2.2.2.1
                  have z25_9 := Mem.lt M25.2.2.2.2.2.2.2.2.2.1
                  have z25_10 := Mem.lt M25.2.2.2.2.2.2.2.2.2.2.1
                  simp only
                  iterate 13 go_step
                  have oo25_0 : w21.heap.size < w25.heap.size := Mem.lt M25.1
                  have oo25_1 : bv < w25.heap.size := Mem.lt M25.2.1
                  have oo25_2 : w.heap.size < w25.heap.size := Mem.lt M25.2.2.1
                  have oo25_3 : w1.heap.size < w25.heap.size := Mem.lt M25.2.2.2.1
                  have oo25_4 : w5.heap.size < w25.heap.size := Mem.lt M25.2.2.2.2.1
                  have oo25_5 : bw < w25.heap.size := Mem.lt M25.2.2.2.2.2.1
                  have oo25_6 : w12.heap.size < w25.heap.size := Mem.lt M25.2.2.2.2.2.2.1
                  have oo25_7 : w12.heap.size + 1 < w25.heap.size := Mem.lt M25.2.2.2.2.2.2.2.1
                  have oo25_8 : w16.heap.size + 1 < w25.heap.size := Mem.lt M25.2.2.2.2.2.2.2.2.1
                  have oo25_9 : gs < w25.heap.size := Mem.lt M25.2.2.2.2.2.2.2.2.2.1
                  have oo25_10 : gk < w25.heap.size := Mem.lt M25.2.2.2.2.2.2.2.2.2.2.1
                  refine wpl_named ?_
                  intro w26 hW26
                  have hB26 : Below w.heap.size w w26 := by rw [hW26]; exact (below_al hB25 _)
                  have hw26 : Laid w26 := by rw [hW26]; exact (hw25.alloc _)
                  have M26 : Mem w26 [(w25.heap.size, .cells (th (th0)) 39), (w21.heap.size, .cells (th ((exH g gs))) 39), (bv, .cells (th ((exV2 g fc2 gs sc))) 39), (w.heap.size, .cells #[.string ⟨#[1]⟩, .string ⟨#[]⟩] 24), (w1.heap.size, .cells #[.slice (ptA gf) 1 fc, .slice none 0 0, .slice none 0 0] 36), (w5.heap.size, .cells (th ((exU gf fc))) 39), (bw, .cells (th ((exW g fc2 gs sc))) 39), (w12.heap.size, .cells (th ((exX g gs (ptA gk) cap))) 39), (w12.heap.size + 1, .cells (ob (exB)) 50), (w16.heap.size + 1, .cells (ob (exP)) 50), (gs, .cells cur 56), (gk, .cells kc 28)] := by rw [hW26]; exact (M25).new' (w25.heap.size) (by rfl) (.cells (th (th0)) 39)
                  clear z25_0 z25_1 c25_2_0 c25_2_1 z25_2 c25_3_0 c25_3_1 c25_3_2 z25_3 z25_4 z25_5 z25_6 z25_7 z25_8 z25_9 z25_10
                  clear hW26
                  have z26_0 := Mem.lt M26.1
                  have z26_1 := Mem.lt M26.2.1
                  have z26_2 := Mem.lt M26.2.2.1
                  have c26_3_0 := Mem.cell (v := .string ⟨#[1]⟩) M26.2.2.2.1 0 rfl
                  have c26_3_1 := Mem.cell (v := .string ⟨#[]⟩) M26.2.2.2.1 1 rfl
                  have z26_3 := Mem.lt M26.2.2.2.1
                  have c26_4_0 := Mem.cell (v := .slice (ptA gf) 1 fc) M26.2.2.2.2.1 0 rfl
                  have c26_4_1 := Mem.cell (v := .slice none 0 0) M26.2.2.2.2.1 1 rfl
                  have c26_4_2 := Mem.cell (v := .slice none 0 0) M26.2.2.2.2.1 2 rfl
                  have z26_4 := Mem.lt M26.2.2.2.2.1
                  have z26_5 := Mem.lt M26.2.2.2.2.2.1
                  have z26_6 := Mem.lt M26.2.2.2.2.2.2.1
                  have z26_7 := Mem.lt M26.2.2.2.2.2.2.2.1
                  have z26_8 := Mem.lt M26.2.2.2.2.2.2.2.2.1
                  have z26_9 := Mem.lt M26.2.2.2.2.2.2.2.2.2.1
                  have z26_10 := Mem.lt M26.2.2.2.2.2.2.2.2.2.2.1
                  have z26_11 := Mem.lt M26.2.2.2.2.2.2.2.2.2.2.2.1
                  refine store_th rfl _ _ rfl (w25.heap.size) rfl (th0) (th0) rfl M26.1 (one_th _) ?_
                  intro w27 hW27
                  have hB27 : Below w.heap.size w w27 := by rw [hW27]; exact below_setCells (B := w.heap.size) hB26 (b := w25.heap.size) (by have := hB26.size; omega) 0 _
                  have hw27 : Laid w27 := hw0.below hB27
                  have M27 : Mem w27 [(w25.heap.size, .cells (th (th0)) 39), (w21.heap.size, .cells (th ((exH g gs))) 39), (bv, .cells (th ((exV2 g fc2 gs sc))) 39), (w.heap.size, .cells #[.string ⟨#[1]⟩, .string ⟨#[]⟩] 24), (w1.heap.size, .cells #[.slice (ptA gf) 1 fc, .slice none 0 0, .slice none 0 0] 36), (w5.heap.size, .cells (th ((exU gf fc))) 39), (bw, .cells (th ((exW g fc2 gs sc))) 39), (w12.heap.size, .cells (th ((exX g gs (ptA gk) cap))) 39), (w12.heap.size + 1, .cells (ob (exB)) 50), (w16.heap.size + 1, .cells (ob (exP)) 50), (gs, .cells cur 56), (gk, .cells kc 28)] := by rw [hW27]; exact ⟨set_th M26.1 _, (setCells_other _ 0 _ _ (by omega)).trans M26.2.1, (setCells_other _ 0 _ _ (by omega)).trans M26.2.2.1, (setCells_other _ 0 _ _ (by omega)).trans M26.2.2.2.1, (setCells_other _ 0 _ _ (by omega)).trans M26.2.2.2.2.1, (setCells_other _ 0 _ _ (by omega)).trans M26.2.2.2.2.2.1, (setCells_other _ 0 _ _ (by omega)).trans M26.2.2.2.2.2.2.1, (setCells_other _ 0 _ _ (by omega)).trans M26.2.2.2.2.2.2.2.1, (setCells_other _ 0 _ _ (by omega)).trans M26.2.2.2.2.2.2.2.2.1, (setCells_other _ 0 _ _ (by omega)).trans M26.2.2.2.2.2.2.2.2.2.1, (setCells_other _ 0 _ _ (by omega)).trans M26.2.2.2.2.2.2.2.2.2.2.1, (setCells_other _ 0 _ _ (by omega)).trans M26.2.2.2.2.2.2.2.2.2.2.2.1, trivial⟩
                  clear z26_0 z26_1 z26_2 c26_3_0 c26_3_1 z26_3 c26_4_0 c26_4_1 c26_4_2 z26_4 z26_5 z26_6 z26_7 z26_8 z26_9 z26_10 z26_11
                  clear hW27
                  have z27_0 := Mem.lt M27.1
                  have z27_1 := Mem.lt M27.2.1
                  have z27_2 := Mem.lt M27.2.2.1
                  have c27_3_0 := Mem.cell (v := .string ⟨#[1]⟩) M27.2.2.2.1 0 rfl
                  have c27_3_1 := Mem.cell (v := .string ⟨#[]⟩) M27.2.2.2.1 1 rfl
                  have z27_3 := Mem.lt M27.2.2.2.1
                  have c27_4_0 := Mem.cell (v := .slice (ptA gf) 1 fc) M27.2.2.2.2.1 0 rfl
                  have c27_4_1 := Mem.cell (v := .slice none 0 0) M27.2.2.2.2.1 1 rfl
                  have c27_4_2 := Mem.cell (v := .slice none 0 0) M27.2.2.2.2.1 2 rfl
                  have z27_4 := Mem.lt M27.2.2.2.2.1
                  have z27_5 := Mem.lt M27.2.2.2.2.2.1
                  have z27_6 := Mem.lt M27.2.2.2.2.2.2.1
                  have z27_7 := Mem.lt M27.2.2.2.2.2.2.2.1
                  have z27_8 := Mem.lt M27.2.2.2.2.2.2.2.2.1
                  have z27_9 := Mem.lt M27.2.2.2.2.2.2.2.2.2.1
                  have z27_10 := Mem.lt M27.2.2.2.2.2.2.2.2.2.2.1
                  have z27_11 := Mem.lt M27.2.2.2.2.2.2.2.2.2.2.2.1
                  replace M27 : Mem w27 [(bv, .cells (th ((exV2 g fc2 gs sc))) 39), (w.heap.size, .cells #[.string ⟨#[1]⟩, .string ⟨#[]⟩] 24), (w1.heap.size, .cells #[.slice (ptA gf) 1 fc, .slice none 0 0, .slice none 0 0] 36), (w5.heap.size, .cells (th ((exU gf fc))) 39), (bw, .cells (th ((exW g fc2 gs sc))) 39), (w12.heap.size, .cells (th ((exX g gs (ptA gk) cap))) 39), (w12.heap.size + 1, .cells (ob (exB)) 50), (w16.heap.size + 1, .cells (ob (exP)) 50), (w21.heap.size, .cells (th ((exH g gs))) 39), (gs, .cells cur 56), (gk, .cells kc 28)] := ⟨M27.2.2.1, M27.2.2.2.1, M27.2.2.2.2.1, M27.2.2.2.2.2.1, M27.2.2.2.2.2.2.1, M27.2.2.2.2.2.2.2.1, M27.2.2.2.2.2.2.2.2.1, M27.2.2.2.2.2.2.2.2.2.1, M27.2.1, M27.2.2.2.2.2.2.2.2.2.2.1, M27.2.2.2.2.2.2.2.2.2.2.2.1, trivial⟩
                  clear z27_0 z27_1 z27_2 c27_3_0 c27_3_1 z27_3 c27_4_0 c27_4_1 c27_4_2 z27_4 z27_5 z27_6 z27_7 z27_8 z27_9 z27_10 z27_11
                  have z27_0 := Mem.lt M27.1
                  have c27_1_0 := Mem.cell (v := .string ⟨#[1]⟩) M27.2.1 0 rfl
                  have c27_1_1 := Mem.cell (v := .string ⟨#[]⟩) M27.2.1 1 rfl
                  have z27_1 := Mem.lt M27.2.1
                  have c27_2_0 := Mem.cell (v := .slice (ptA gf) 1 fc) M27.2.2.1 0 rfl
                  have c27_2_1 := Mem.cell (v := .slice none 0 0) M27.2.2.1 1 rfl
                  have c27_2_2 := Mem.cell (v := .slice none 0 0) M27.2.2.1 2 rfl
                  have z27_2 := Mem.lt M27.2.2.1
                  have z27_3 := Mem.lt M27.2.2.2.1
                  have z27_4 := Mem.lt M27.2.2.2.2.1
                  have z27_5 := Mem.lt M27.2.2.2.2.2.1
                  have z27_6 := Mem.lt M27.2.2.2.2.2.2.1
                  have z27_7 := Mem.lt M27.2.2.2.2.2.2.2.1
                  have z27_8 := Mem.lt M27.2.2.2.2.2.2.2.2.1
                  have z27_9 := Mem.lt M27.2.2.2.2.2.2.2.2.2.1
                  have z27_10 := Mem.lt M27.2.2.2.2.2.2.2.2.2.2.1
                  have c27_5_7 := Mem.cell (v := .slice (exX g gs (ptA gk) cap).sk.a (exX g gs (ptA gk) cap).sk.n (exX g gs (ptA gk) cap).sk.c) M27.2.2.2.2.2.1 7 rfl
                  go_upto_region 18 with (fail)
                  have p27_3_11 := fun p : After w27 => Mem.cell (v := .int .i64 4) (Mem.after M27 p).2.2.2.1 11 rfl
                  have p27_0_1 := fun p : After w27 => Mem.cell (v := .string ⟨#[48, 46, 49]⟩) (Mem.after M27 p).1 1 rfl
                  have p27_0_4 := fun p : After w27 => Mem.cell (v := .string ⟨#[1]⟩) (Mem.after M27 p).1 4 rfl
                  have p27_0_5 := fun p : After w27 => Mem.cell (v := .string ⟨#[]⟩) (Mem.after M27 p).1 5 rfl
                  have p27_0_9 := fun p : After w27 => Mem.cell (v := .slice (ptA gs) 1 sc) (Mem.after M27 p).1 9 rfl
                  have p27_0_11 := fun p : After w27 => Mem.cell (v := .int .i64 2) (Mem.after M27 p).1 11 rfl
                  have p27_5_7 := fun p : After w27 => Mem.cell (v := .slice (ptA gk) 1 cap) (Mem.after M27 p).2.2.2.2.2.1 7 rfl
                  have p27_5_11 := fun p : After w27 => Mem.cell (v := .int .i64 1) (Mem.after M27 p).2.2.2.2.2.1 11 rfl
                  have p27_5_12 := fun p : After w27 => Mem.cell (v := .int .i64 0) (Mem.after M27 p).2.2.2.2.2.1 12 rfl
                  have p27_6_1 := fun p : After w27 => Mem.cell (v := .string ⟨#[1]⟩) (Mem.after M27 p).2.2.2.2.2.2.1 1 rfl
                  have p27_6_2 := fun p : After w27 => Mem.cell (v := .string ⟨#[]⟩) (Mem.after M27 p).2.2.2.2.2.2.1 2 rfl
                  have p27_6_3 := fun p : After w27 => Mem.cell (v := .int .i64 1) (Mem.after M27 p).2.2.2.2.2.2.1 3 rfl
                  have p27_6_4 := fun p : After w27 => Mem.cell (v := .int .i64 3) (Mem.after M27 p).2.2.2.2.2.2.1 4 rfl
                  have p27_6_5 := fun p : After w27 => Mem.cell (v := .string ⟨#[]⟩) (Mem.after M27 p).2.2.2.2.2.2.1 5 rfl
                  have p27_6_6 := fun p : After w27 => Mem.cell (v := .string ⟨#[]⟩) (Mem.after M27 p).2.2.2.2.2.2.1 6 rfl
                  have p27_6_7 := fun p : After w27 => Mem.cell (v := .string ⟨#[]⟩) (Mem.after M27 p).2.2.2.2.2.2.1 7 rfl
                  have p27_6_8 := fun p : After w27 => Mem.cell (v := .bool false) (Mem.after M27 p).2.2.2.2.2.2.1 8 rfl
                  have p27_7_4 := fun p : After w27 => Mem.cell (v := .int .i64 (-7)) (Mem.after M27 p).2.2.2.2.2.2.2.1 4 rfl
                  have p27_7_8 := fun p : After w27 => Mem.cell (v := .bool true) (Mem.after M27 p).2.2.2.2.2.2.2.1 8 rfl
                  have p27_8_2 := fun p : After w27 => Mem.cell (v := .string ⟨#[1]⟩) (Mem.after M27 p).2.2.2.2.2.2.2.2.1 2 rfl
                  have p27_8_3 := fun p : After w27 => Mem.cell (v := .string ⟨#[]⟩) (Mem.after M27 p).2.2.2.2.2.2.2.2.1 3 rfl
                  have p27_8_12 := fun p : After w27 => Mem.cell (v := .int .i64 2) (Mem.after M27 p).2.2.2.2.2.2.2.2.1 12 rfl
                  have p27_9_3 := fun p : After w27 => raw_cell (Mem.after M27 p).2.2.2.2.2.2.2.2.2.1 HGT.out (j := 3) (v := .int .i64 19) rfl
                  have p27_9_13 := fun p : After w27 => raw_cell (Mem.after M27 p).2.2.2.2.2.2.2.2.2.1 HGT.out (j := 13) (v := .int .i64 1) rfl
                  have p27_10_0 := fun p : After w27 => raw_cell (Mem.after M27 p).2.2.2.2.2.2.2.2.2.2.1 HGK.out (j := 0) (v := .int .i64 3) rfl
                  have p27_10_1 := fun p : After w27 => raw_cell (Mem.after M27 p).2.2.2.2.2.2.2.2.2.2.1 HGK.out (j := 1) (v := .int .i64 0) rfl
                  have p27_10_2 := fun p : After w27 => raw_cell (Mem.after M27 p).2.2.2.2.2.2.2.2.2.2.1 HGK.out (j := 2) (v := .string ⟨#[48, 46, 49]⟩) rfl
                  have p27_10_3 := fun p : After w27 => raw_cell (Mem.after M27 p).2.2.2.2.2.2.2.2.2.2.1 HGK.out (j := 3) (v := .string ⟨#[1]⟩) rfl
                  have p27_10_4 := fun p : After w27 => raw_cell (Mem.after M27 p).2.2.2.2.2.2.2.2.2.2.1 HGK.out (j := 4) (v := .string ⟨#[]⟩) rfl
                  have pcur : ∀ p : After w27, p.world.heap[gs]? = some (.cells cur 56) := fun p => (Mem.after M27 p).2.2.2.2.2.2.2.2.2.1
                  have p27_4_12 := fun p : After w27 => Mem.cell (v := .int .i64 2) (Mem.after M27 p).2.2.2.2.1 12 rfl
                  have p27_1_0 := fun p : After w27 => Mem.cell (v := .string ⟨#[1]⟩) (Mem.after M27 p).2.1 0 rfl
                  have p27_1_1 := fun p : After w27 => Mem.cell (v := .string ⟨#[]⟩) (Mem.after M27 p).2.1 1 rfl
                  have p27_2_0 := fun p : After w27 => Mem.cell (v := .slice (ptA gf) 1 fc) (Mem.after M27 p).2.2.1 0 rfl
                  have p27_2_1 := fun p : After w27 => Mem.cell (v := .slice none 0 0) (Mem.after M27 p).2.2.1 1 rfl
                  have p27_2_2 := fun p : After w27 => Mem.cell (v := .slice none 0 0) (Mem.after M27 p).2.2.1 2 rfl
                  simp only [List.append]
                  refine wp_region_after (by kernel_rfl) (lex_of (by kernel_rfl) ex_lex) ?_
                  iterate 61 (go_big_quiet_step ((first | (go_at_call 11; with_reducible exact After.call (ex_due1 g fc2 gs sc hsc1 cur _ (pcur _) HGT.out)) | (go_at_call 11; with_reducible exact After.call (ex_due2 g fc2 gs sc hsc1 cur _ (pcur _) HGT.out)) | (go_at_call 10; with_reducible exact After.call (number_any 3 _)))))
                  go_big_quiet_want
                  refine quiet_load_mid 39 _ rfl (bw) 0 (by rfl) (th ((exW g fc2 gs sc))).toList (.agg (th ((exW g fc2 gs sc)))) rfl _ (fun w_ hw_ => by obtain ⟨p_, hp_⟩ := hw_; rw [hp_]; exact range_block (Mem.after M27 p_).2.2.2.2.1) Tryz.underlying39 rfl info_th ?_
                  simp only [Act.put, List.setIfInBounds_toArray, List.set_cons_zero, List.set_cons_succ]
                  go_big_quiet_on
                  iterate 4 (go_big_quiet_step ((first | (go_at_call 11; with_reducible exact After.call (ex_due1 g fc2 gs sc hsc1 cur _ (pcur _) HGT.out)) | (go_at_call 11; with_reducible exact After.call (ex_due2 g fc2 gs sc hsc1 cur _ (pcur _) HGT.out)) | (go_at_call 10; with_reducible exact After.call (number_any 3 _)))))
                  go_big_quiet_want
                  refine quiet_load_mid 39 _ rfl (bw) 0 (by rfl) (th ((exW g fc2 gs sc))).toList (.agg (th ((exW g fc2 gs sc)))) rfl _ (fun w_ hw_ => by obtain ⟨p_, hp_⟩ := hw_; rw [hp_]; exact range_block (Mem.after M27 p_).2.2.2.2.1) Tryz.underlying39 rfl info_th ?_
                  simp only [Act.put, List.setIfInBounds_toArray, List.set_cons_zero, List.set_cons_succ]
                  go_big_quiet_on
                  repeat (go_big_quiet_step ((first | (go_at_call 11; with_reducible exact After.call (ex_due1 g fc2 gs sc hsc1 cur _ (pcur _) HGT.out)) | (go_at_call 11; with_reducible exact After.call (ex_due2 g fc2 gs sc hsc1 cur _ (pcur _) HGT.out)) | (go_at_call 10; with_reducible exact After.call (number_any 3 _)))))
                  refine wpQuiet_nil ?_
                  rintro _ ⟨p27, rfl⟩
                  clear p27_3_11 p27_0_1 p27_0_4 p27_0_5 p27_0_9 p27_0_11 p27_5_7 p27_5_11 p27_5_12 p27_6_1 p27_6_2 p27_6_3 p27_6_4 p27_6_5 p27_6_6 p27_6_7 p27_6_8 p27_7_4 p27_7_8 p27_8_2 p27_8_3 p27_8_12 p27_9_3 p27_9_13 p27_10_0 p27_10_1 p27_10_2 p27_10_3 p27_10_4 p27_4_12 p27_1_0 p27_1_1 p27_2_0 p27_2_1 p27_2_2
                  clear z27_0 c27_1_0 c27_1_1 z27_1 c27_2_0 c27_2_1 c27_2_2 z27_2 z27_3 z27_4 z27_5 z27_6 z27_7 z27_8 z27_9 z27_10 c27_5_7
                  obtain ⟨w28, hW28⟩ : ∃ x, x = p27.world := ⟨_, rfl⟩
                  have hB28 : Below w.heap.size w w28 := by rw [hW28]; exact below_then hB27 p27.h
                  have hw28 : Laid w28 := by rw [hW28]; exact hw27.below p27.h
                  have M28 := M27.below p27.h
                  rw [← hW28] at M28
                  rw [← hW28]
                  clear hW28
                  clear p27
                  have z28_0 := Mem.lt M28.1
                  have c28_1_0 := Mem.cell (v := .string ⟨#[1]⟩) M28.2.1 0 rfl
                  have c28_1_1 := Mem.cell (v := .string ⟨#[]⟩) M28.2.1 1 rfl
                  have z28_1 := Mem.lt M28.2.1
                  have c28_2_0 := Mem.cell (v := .slice (ptA gf) 1 fc) M28.2.2.1 0 rfl
                  have c28_2_1 := Mem.cell (v := .slice none 0 0) M28.2.2.1 1 rfl
                  have c28_2_2 := Mem.cell (v := .slice none 0 0) M28.2.2.1 2 rfl
                  have z28_2 := Mem.lt M28.2.2.1
                  have z28_3 := Mem.lt M28.2.2.2.1
                  have z28_4 := Mem.lt M28.2.2.2.2.1
                  have z28_5 := Mem.lt M28.2.2.2.2.2.1
                  have z28_6 := Mem.lt M28.2.2.2.2.2.2.1
                  have z28_7 := Mem.lt M28.2.2.2.2.2.2.2.1
                  have z28_8 := Mem.lt M28.2.2.2.2.2.2.2.2.1
                  have z28_9 := Mem.lt M28.2.2.2.2.2.2.2.2.2.1
                  have z28_10 := Mem.lt M28.2.2.2.2.2.2.2.2.2.2.1
                  go_wp2_with fail
                  go_ret
                  exact ⟨rfl, hB28⟩
end Go.Proofs.YtnmepcogijgbjaaGreatDoor
