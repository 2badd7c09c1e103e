/- core.Enter. -/
import Derived.Lib.SliceRun
import Derived.Test.YtnmepcogijgbjaaGreatDoorCore
namespace Go.Proofs.YtnmepcogijgbjaaGreatDoor
open Go.RowKit
set_option maxRecDepth 100000 in
set_option maxHeartbeats 2000000 in
theorem cloneV_some (a : Addr) (n cap : Nat) (xs : List Value) (w : World) (hfl : xs.length = n * 5) (h1 : ∀ u ∈ xs, u.oneCell' = true) (hg : ∀ j u, xs[j]? = some u → w.cell? (a.add j) = some u) (hlen : n * 64 ≤ 140737488355328) :
    Calls Tryz.prog 49 #[.slice (some a) n cap] w fun e w' => ∃ v', e = .returned v' ∧ w'.ownsRow w.heap.size 28 5 v' n xs ∧ Below w.heap.size w w' := by
  obtain ⟨i0, hi, hz0, hz1, hz2⟩ := info_parts info_Value
  have hq : ∀ (w : World) (a : Option Addr) (n c n' c' : Nat), (binOp .eql 33 (.slice a n c) (.slice none n' c')).run Tryz.prog w = .ok (.bool a.isNone) w := fun w a n c n' c' => Lib.run_eql_slice_nil w _ _ a n c n' c' Tryz.underlying33
  have hu : ∀ w, Sem.run Tryz.prog (underlying 33) w = .ok (TypeDesc.slice 28) w := run_underlying Tryz.underlying33
  have A : Aside (∀ j u, xs[j]? = some u → w.cell? (a.add j) = some u) := hg
  clear hg
  go_enter Tryz.func49, Tryz.ntmps49
  go_wp2_with (at_builtin; refine wpList_append_own _ rfl _ _ 33 rfl w.heap.size 28 i0 _ 5 64 Tryz.underlying33 hi hz0 hz1 hz2 rfl (by decide) _ _ _ rfl (World.ownsRow_made w #[] 0 (Nat.le_refl _) (Nat.zero_le _) rfl) a n cap xs rfl ?qc1 ?qc2 ?qc3 ?qc4 ?qc5 ?qc6 ?_)
  case qc1 => exact hfl
  case qc2 =>
    intro j u hj
    exact Lib.cell?_alloc_some _ (A.out j u hj)
  case qc3 => exact h1
  case qc4 => unfold maxLen; omega
  case qc5 => omega
  case qc6 => simp
  intro v' w1 hown hgrow hnil
  go_wp2
  go_ret
  refine ⟨v', rfl, by simpa using hown, ?_⟩
  exact ((Below.refl _ w).alloc (Nat.le_refl _) _).grown hgrow (by simp) (by intro k hk; simp [Value.ownBlock] at hk; omega)
theorem cloneV_any (ao : Option Addr) (n cap : Nat) (xs : List Value) (w : World) (h0 : ao = none → n = 0 ∧ cap = 0) (hfl : xs.length = n * 5) (h1 : ∀ u ∈ xs, u.oneCell' = true) (hR : RowsIn w ao xs) (hlen : n ≤ 1000000) :
    Calls Tryz.prog 49 #[.slice ao n cap] w fun e w' => ∃ v', e = .returned v' ∧ w'.ownsRow w.heap.size 28 5 v' n xs ∧ Below w.heap.size w w' := by
  cases ao with
  | none =>
    obtain ⟨rfl, rfl⟩ := h0 rfl
    have hxs : xs = [] := List.eq_nil_of_length_eq_zero (by omega)
    subst hxs
    clear hR h1 h0
    have hq : ∀ (w : World) (a : Option Addr) (n c n' c' : Nat), (binOp .eql 33 (.slice a n c) (.slice none n' c')).run Tryz.prog w = .ok (.bool a.isNone) w := fun w a n c n' c' => Lib.run_eql_slice_nil w _ _ a n c n' c' Tryz.underlying33
    have hu : ∀ w, Sem.run Tryz.prog (underlying 33) w = .ok (TypeDesc.slice 28) w := run_underlying Tryz.underlying33
    go_enter Tryz.func49, Tryz.ntmps49
    go_wp2
    go_ret
    exact ⟨_, rfl, ⟨by simp, Or.inl ⟨rfl, rfl⟩⟩, Below.refl _ _⟩
  | some a => exact cloneV_some a n cap xs w hfl h1 (hR a rfl).2 (by omega)
theorem row_low {w : World} {B k : Nat} {e : TypeId} {v : Value} {n : Nat} {xs : List Value} (h : w.ownsRow B e k v n xs) : ∀ j, v.ownBlock = some j → B ≤ j := by
  intro j hj
  rcases h.2 with ⟨rfl, _⟩ | ⟨g, cap, cur, rfl, hB, _⟩
  · cases hj
  · simp [Value.ownBlock] at hj; omega
set_option maxRecDepth 100000 in
set_option maxHeartbeats 4000000 in
theorem enterC_any (fo so to' : Option Addr) (fn fc sn sc tn tc : Nat) (xf : List Value) (hfl : xf.length = fn * 5) (hfn : fn ≤ fc) (hfc : fc ≤ maxLen) (hf16 : fn < 16) (hf0 : fo = none → fn = 0) (_ : sn ≤ 1000000)
    (fu : Int) (q : Nat) (hq : q ≤ 16) (ao : Option Addr) (n cap : Nat) (xa : List Value) (ha0 : ao = none → n = 0 ∧ cap = 0) (hal : xa.length = n * 5) (ha1 : ∀ u ∈ xa, u.oneCell' = true) (hn : n ≤ 100) (mk : Int) (w : World) (hR : RowsIn w fo xf) (hA : RowsIn w ao xa) :
    Calls Tryz.prog 22 #[.agg #[.slice fo fn fc, .slice so sn sc, .slice to' tn tc], .int .i64 fu, .int .i64 (q : Int), .slice ao n cap, .int .u8 mk] w fun e w' => ∃ fo' fc' va vc, e = .returned (.tuple #[.agg #[.slice fo' (fn + 1) fc', .slice so sn sc, .slice to' tn tc], .bool true]) ∧ w'.ownsRow w.heap.size 104 5 (.slice fo' (fn + 1) fc') (fn + 1) (xf ++ [.int .i64 fu, .int .i64 0, .int .i64 sn, .int .u8 mk, .slice va (n + q) vc]) ∧ Below w.heap.size w w' := by
  obtain ⟨i0, hi, hz0, hz1, hz2⟩ := info_parts info_Value
  have HRF := Lib.hid fun (W : World) (hb : Below w.heap.size w W) => RowsIn.below hR hb
  have hia := hA
  clear hR hA
  have hf16I : decide ((16 : Int) ≤ (fn : Int)) = false := by simp; omega
  have hqn : ¬ ((q : Int) < 0) := by omega
  have hqm : ¬ ((16 : Int) < (q : Int)) := by omega
  have hqI : (q : Int) ≤ 16 := by omega
  go_enter Tryz.func22, Tryz.ntmps22
  have hB0 := Below.refl w.heap.size w
  have M0 := Mem.nil w
  go_wp2_with fail
  refine Calls.named ?_
  intro W1 hW1
  have hB1_ : Below w.heap.size w W1 := by rw [hW1]; exact (below_al (below_al hB0 _) _)
  have M1_ := ((M0).new' (w.heap.size) (by rfl) (.cells #[.slice fo fn fc, .slice so sn sc, .slice to' tn tc] 36)).new' (w.heap.size + 1) (by simp) (.cells #[.slice none 0 0, .slice none 0 0, .slice none 0 0] 36)
  rw [← hW1] at M1_
  have hS1 : Below w.heap.size w W1 := by rw [hW1]; exact (below_al (below_al (Below.refl _ _) _) _)
  have hia_ := RowsIn.below hia hS1
  clear hS1 hia
  clear hW1
  have ZZ1_0 := Lib.hid (Mem.lt M1_.1)
  have ZZ1_1 := Lib.hid (Mem.lt M1_.2.1)
  refine (cloneV_any ao n cap xa _ ha0 hal ha1 hia_ (by omega)).mono ?_
  rintro e w1 ⟨v, rfl, hO, hb1⟩
  have hia := RowsIn.below hia_ hb1
  clear hia_
  have hB1 := below_then hB1_ hb1
  have M1 := M1_.below hb1
  clear M1_ hB1_ hb1
  have c1_0_0 := Mem.cell (v := .slice none 0 0) M1.1 0 rfl
  have c1_0_1 := Mem.cell (v := .slice none 0 0) M1.1 1 rfl
  have c1_0_2 := Mem.cell (v := .slice none 0 0) M1.1 2 rfl
  have z1_0 := Mem.lt M1.1
  have c1_1_0 := Mem.cell (v := .slice fo fn fc) M1.2.1 0 rfl
  have c1_1_1 := Mem.cell (v := .slice so sn sc) M1.2.1 1 rfl
  have c1_1_2 := Mem.cell (v := .slice to' tn tc) M1.2.1 2 rfl
  have z1_1 := Mem.lt M1.2.1
  clear hia
  replace hO := ownsRow_low (B := w.heap.size + 1 + 1) hO (by have := ZZ1_0.out; omega)
  obtain ⟨av, cv, rfl, -⟩ := rows_owned hO
  go_wp2_with fail
  have HM1 := Lib.hid M1
  have HB1 := Lib.hid hB1
  go_loopw [12, 23] (fun l i wr => ∃ k, k ≤ q ∧ i = .int .i64 k ∧ (∃ xs, wr.ownsRow (w.heap.size + 1 + 1) 28 5 l (n + k) xs) ∧ Below w.heap.size w wr ∧ Mem wr [(w.heap.size + 1, .cells #[.slice none 0 0, .slice none 0 0, .slice none 0 0] 36), (w.heap.size, .cells #[.slice fo fn fc, .slice so sn sc, .slice to' tn tc] 36)]) (fun _ i _ => q - (intOf i).toNat)
  case atStart => exact ⟨0, by omega, rfl, ⟨_, hO⟩, HB1.out, HM1.out⟩
  case round =>
    obtain ⟨k, hk, rfl, ⟨xs, hown⟩, hB, hM⟩ := hrel
    obtain ⟨au, cu, rfl, -⟩ := rows_owned hown
    clear hO HM1 HB1
    have hz9 := Mem.lt hM.1
    by_cases hlt : k < q
    · have hltI : (k : Int) < q := by omega
      have HB := Lib.hid hB
      have HM := Lib.hid hM
      clear hB hM
      go_wp2_with (at_builtin; refine wpList_append_own _ rfl _ _ 33 rfl (w.heap.size + 1 + 1) 28 i0 _ 5 64 Tryz.underlying33 hi hz0 hz1 hz2 rfl (by decide) _ _ _ rfl (hown.alloc _) ⟨wr.heap.size, 0, none⟩ 1 1 [.int .i64 1, .int .i64 0, .string ⟨#[]⟩, .string ⟨#[]⟩, .string ⟨#[]⟩] rfl rfl (World.news_of_block (cs := #[.int .i64 1, .int .i64 0, .string ⟨#[]⟩, .string ⟨#[]⟩, .string ⟨#[]⟩]) (t := 28) (fr := (0, 0)) (heap_alloc_new _ _)) (by simp [Value.oneCell']) (by unfold maxLen; omega) (by omega) (by simp; omega) ?_; intro v' w2 hown' hgrow _)
      have hb2 : Below (w.heap.size + 1 + 1) wr w2 := ((Below.refl _ wr).alloc (by omega) _).grown hgrow (by simp; omega) (row_low hown)
      go_roundw
      case rel => exact ⟨k + 1, by omega, by go_num, ⟨_, hown'⟩, HB.out.trans (hb2.mono (by omega)), (hb2.block _ (by omega)).trans HM.out.1, (hb2.block _ (by omega)).trans HM.out.2.1, trivial⟩
      case measure => simp [intOf]; omega
    · obtain rfl : k = q := by omega
      obtain ⟨w2, rfl⟩ : ∃ x, x = wr := ⟨_, rfl⟩
      have hB2 := hB
      have M2 := hM
      clear hB hM hown
      have c2_0_0 := Mem.cell (v := .slice none 0 0) M2.1 0 rfl
      have c2_0_1 := Mem.cell (v := .slice none 0 0) M2.1 1 rfl
      have c2_0_2 := Mem.cell (v := .slice none 0 0) M2.1 2 rfl
      have z2_0 := Mem.lt M2.1
      have c2_1_0 := Mem.cell (v := .slice fo fn fc) M2.2.1 0 rfl
      have c2_1_1 := Mem.cell (v := .slice so sn sc) M2.2.1 1 rfl
      have c2_1_2 := Mem.cell (v := .slice to' tn tc) M2.2.1 2 rfl
      have z2_1 := Mem.lt M2.2.1
      go_wp2_with fail
      refine Calls.named ?_
      intro W3 hW3
      have hB3_ : Below w.heap.size w W3 := by rw [hW3]; exact hB2
      have M3_ := M2
      rw [← hW3] at M3_
      clear hW3
      have ZZ3_0 := Lib.hid (Mem.lt M3_.1)
      have ZZ3_1 := Lib.hid (Mem.lt M3_.2.1)
      clear c2_0_0 c2_0_1 c2_0_2 z2_0 c2_1_0 c2_1_1 c2_1_2 z2_1
      refine (add_Frame_any fo fn fc xf hfl hfn hfc (by omega) hf0 fu 0 sn mk au (n + k) cu _ (HRF.out _ hB3_)).mono ?_
      rintro e w3 ⟨vf, rfl, hF, hb3⟩
      have hB3 := below_then hB3_ hb3
      have M3 := M3_.below hb3
      clear M3_ hB3_ hb3
      have c3_0_0 := Mem.cell (v := .slice none 0 0) M3.1 0 rfl
      have c3_0_1 := Mem.cell (v := .slice none 0 0) M3.1 1 rfl
      have c3_0_2 := Mem.cell (v := .slice none 0 0) M3.1 2 rfl
      have z3_0 := Mem.lt M3.1
      have c3_1_0 := Mem.cell (v := .slice fo fn fc) M3.2.1 0 rfl
      have c3_1_1 := Mem.cell (v := .slice so sn sc) M3.2.1 1 rfl
      have c3_1_2 := Mem.cell (v := .slice to' tn tc) M3.2.1 2 rfl
      have z3_1 := Mem.lt M3.2.1
      obtain ⟨fo2, fc2, rfl, -⟩ := rows_owned hF
      replace hF := ownsRow_low (B := w.heap.size + 1 + 1) hF (by have := ZZ3_0.out; omega)
      have f2 := fun j => Mem.free M3.2.1 j
      go_upto_region 9 with (fail)
      have hX3 : (w3.setCells (w.heap.size) 0 [.slice fo2 (fn + 1) fc2]).heap[w.heap.size]? = some (.cells #[.slice fo2 (fn + 1) fc2, .slice so sn sc, .slice to' tn tc] 36) := by rw [setCells_block [.slice fo2 (fn + 1) fc2] 0 _ _ (M3).2.1 (by simp)]; rfl
      have hY3 := below_setCells (B := w.heap.size) hB3 (b := w.heap.size) (by have := hB3.size; omega) 0 [.slice fo2 (fn + 1) fc2]
      refine wp_named ?_
      intro w4 hW4
      have hB4 : Below w.heap.size w w4 := by rw [hW4]; exact hY3
      have M4 : Mem w4 [(w.heap.size + 1, .cells #[.slice none 0 0, .slice none 0 0, .slice none 0 0] 36), (w.heap.size, .cells #[.slice fo2 (fn + 1) fc2, .slice so sn sc, .slice to' tn tc] 36)] := by rw [hW4]; exact ⟨(setCells_other [.slice fo2 (fn + 1) fc2] 0 _ _ (by omega)).trans (M3).1, hX3, trivial⟩
      have hF2 := ownsRow_set hF (b := w.heap.size) (by omega) 0 [.slice fo2 (fn + 1) fc2]
      rw [show w3.setCells (w.heap.size) 0 [.slice fo2 (fn + 1) fc2] = w4 from hW4.symm] at hF2
      clear c3_0_0 c3_0_1 c3_0_2 z3_0 c3_1_0 c3_1_1 c3_1_2 z3_1
      clear hW4 hX3 hY3
      have c4_0_0 := Mem.cell (v := .slice none 0 0) M4.1 0 rfl
      have c4_0_1 := Mem.cell (v := .slice none 0 0) M4.1 1 rfl
      have c4_0_2 := Mem.cell (v := .slice none 0 0) M4.1 2 rfl
      have z4_0 := Mem.lt M4.1
      have c4_1_0 := Mem.cell (v := .slice fo2 (fn + 1) fc2) M4.2.1 0 rfl
      have c4_1_1 := Mem.cell (v := .slice so sn sc) M4.2.1 1 rfl
      have c4_1_2 := Mem.cell (v := .slice to' tn tc) M4.2.1 2 rfl
      have z4_1 := Mem.lt M4.2.1
      have f3 := fun j => Mem.free M4.1 j
      go_wp2_with fail
      have hX4 := set_block (M4).1 [.slice fo2 (fn + 1) fc2, .slice so sn sc, .slice to' tn tc] rfl
      have hY4 := below_setCells (B := w.heap.size) hB4 (b := w.heap.size + 1) (by have := hB4.size; omega) 0 [.slice fo2 (fn + 1) fc2, .slice so sn sc, .slice to' tn tc]
      obtain ⟨W_e, hW_e⟩ : ∃ W_e, W_e = w4.setCells (w.heap.size + 1) 0 [.slice fo2 (fn + 1) fc2, .slice so sn sc, .slice to' tn tc] := ⟨_, rfl⟩
      have hF3 := ownsRow_low (B := w.heap.size) (ownsRow_set hF2 (b := w.heap.size + 1) (by omega) 0 [.slice fo2 (fn + 1) fc2, .slice so sn sc, .slice to' tn tc]) (by omega)
      rw [← hW_e] at hF3
      rw [← hW_e] at hX4 hY4
      refine at_world hW_e ?_
      have k_0 := Mem.cell (v := .slice fo2 (fn + 1) fc2) hX4 0 rfl
      have k_1 := Mem.cell (v := .slice so sn sc) hX4 1 rfl
      have k_2 := Mem.cell (v := .slice to' tn tc) hX4 2 rfl
      refine bodyPost_ret (v := .tuple #[.agg #[.slice fo2 (fn + 1) fc2, .slice so sn sc, .slice to' tn tc], .bool true]) (by simp [results, Tryz.results22, go_sem, k_0, k_1, k_2]) rfl ⟨_, _, _, _, rfl, hF3, hY4⟩
end Go.Proofs.YtnmepcogijgbjaaGreatDoor
