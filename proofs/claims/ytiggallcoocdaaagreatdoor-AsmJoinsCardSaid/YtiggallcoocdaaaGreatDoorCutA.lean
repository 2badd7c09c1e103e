/- The chapter's 'cut': a program of labels of a few clauses at most. -/
import Derived.Test.YtiggallcoocdaaaGreatDoorFnOA
import Derived.StillTailTactics
namespace Go.Proofs.YtiggallcoocdaaaGreatDoor
open Go.RowKit
def cutL (v : Vl) : Vl := ⟨v.k, v.n, v.nm, ⟨v.l.S.take 6, v.l.I.take 6⟩⟩
def cutC (l : List Vl) : List Vl := (l.take 70).map cutL
def cut6 (s : ByteArray) : ByteArray := s.extract 0 (min s.size 6)
theorem cut6_l (l : List UInt8) : cut6 ⟨l.toArray⟩ = ⟨(l.take 6).toArray⟩ := by
  unfold cut6
  apply ByteArray.ext
  rw [ByteArray.data_extract]
  simp only [List.extract_toArray, List.extract_eq_take_drop, List.drop_zero]
  congr 1
  show l.take (min l.length 6 - 0) = _
  rw [Nat.sub_zero]
  by_cases h : l.length ≤ 6
  · rw [Nat.min_eq_left h, List.take_length, List.take_of_length_le h]
  · rw [Nat.min_eq_right (by omega)]
theorem slice6 (s : ByteArray) (W : World) : (Instr.slice 46 (.string s) none (some (.int .i64 (min (s.size : Int) 6))) none).run Tryz.prog W = .ok (.string (cut6 s)) W := by
  have h := run_slice_string_h (P := Tryz.prog) (w := W) 46 s Tryz.underlying46 .i64 (min (s.size : Int) 6) (by omega) (by omega)
  rw [h]
  unfold cut6
  rw [show (min (s.size : Int) 6).toNat = min s.size 6 by omega]
structure CT (n0 : Nat) (w : World) (pv fv : Value) (cs : List Vl) (W : World) : Prop where
  hb : Below n0 w W
  sz : n0 + 3 ≤ W.heap.size
  par : W.heap[n0]? = some (.cells #[pv, fv] 27)
  res : W.heap[n0 + 1]? = some (.cells #[.slice none 0 0, .slice none 0 0] 27)
  ex : ∃ cv, W.heap[n0 + 2]? = some (.cells #[cv, fv] 27) ∧ W.ownsRow (n0 + 3) 50 5 cv cs.length (cs.map vrow).flatten
theorem CT.step {n0 : Nat} {w W W1 w2 : World} {pv fv cv v' : Value} {cs cs' : List Vl} (h : CT n0 w pv fv cs W) (hbk : W.heap[n0 + 2]? = some (.cells #[cv, fv] 27)) (hown : W.ownsRow (n0 + 3) 50 5 cv cs.length (cs.map vrow).flatten)
    (hb : Below W.heap.size W W1) (hg : W1.grownBy w2 cv.ownBlock) (hown' : w2.ownsRow (n0 + 3) 50 5 v' cs'.length (cs'.map vrow).flatten) : CT n0 w pv fv cs' (w2.setCell ⟨n0 + 2, 0, none⟩ v') := by
  have hlow := row_low hown
  have hsz := h.sz
  have hsz1 := hb.size
  have key : ∀ k, k < n0 + 3 → w2.heap[k]? = W.heap[k]? := fun k hk => (hg.block k (by omega) (fun e => by have := hlow k e.symm; omega)).trans (hb.block k (by omega))
  refine ⟨?_, ?_, (Below.heap_setCell _ _ _ _ (by simp)).trans ((key _ (by omega)).trans h.par), (Below.heap_setCell _ _ _ _ (by simp)).trans ((key _ (by omega)).trans h.res), v', setCell_block ((key _ (by omega)).trans hbk) _, owns_set hown' (b := n0 + 2) (by omega) 0 [v']⟩
  · exact ((h.hb.trans (hb.mono (by omega))).grown hg (by omega) (fun k hk => by have := hlow k hk; omega)).setCell (p := ⟨n0 + 2, 0, none⟩) (by simp) _
  · have := hg.size
    simp [World.setCell]
    omega
set_option maxRecDepth 100000 in
set_option maxHeartbeats 4000000 in
theorem chcut_any (cs : List Vl) (co fo : Option Addr) (n cp m cq : Nat) (hn : n = cs.length) (w : World) (hV : VsAt w (.slice co n cp) cs) :
    Calls Tryz.prog 13 #[.agg #[.slice co n cp, .slice fo m cq]] w fun e w' => ∃ ao cap, e = .returned (.agg #[.slice ao (cutC cs).length cap, .slice fo m cq]) ∧ w'.ownsRow w.heap.size 50 5 (.slice ao (cutC cs).length cap) (cutC cs).length ((cutC cs).map vrow).flatten ∧ Below w.heap.size w w' := by
  obtain ⟨i0, hi, hz0, hz1, hz2⟩ := info_parts infLV
  have HV := Lib.hid hV
  have HN := Lib.hid hn
  clear hV hn
  go_enter Tryz.func13, Tryz.ntmps13
  have hCT : CT w.heap.size w (.slice co n cp) (.slice fo m cq) [] (((w.alloc (.cells #[.slice co n cp, .slice fo m cq] 27)).alloc (.cells #[.slice none 0 0, .slice none 0 0] 27)).alloc (.cells #[.slice none 0 0, .slice fo m cq] 27)) := by
    have hM := (((Mem.nil w).new (.cells #[.slice co n cp, .slice fo m cq] 27)).new (.cells #[.slice none 0 0, .slice none 0 0] 27)).new (.cells #[.slice none 0 0, .slice fo m cq] 27)
    rw [World.size_alloc, World.size_alloc] at hM
    exact ⟨below_al (below_al (below_al (Below.refl _ _) _) _) _, by simp, hM.2.2.1, hM.2.1, .slice none 0 0, hM.1, ⟨rfl, .inl ⟨rfl, rfl⟩⟩⟩
  have HCT := Lib.hid hCT
  clear hCT
  go_wp2_with fail
  go_loopw [4] (fun i wr => ∃ k : Nat, k ≤ 70 ∧ k ≤ n ∧ i = .int .i64 k ∧ CT w.heap.size w (.slice co n cp) (.slice fo m cq) ((cs.take k).map cutL) wr) (fun i _ => 70 - (intOf i).toNat)
  case atStart => exact ⟨0, by omega, by omega, rfl, HCT.out⟩
  case round =>
    obtain ⟨k, hk, hkn, rfl, hC⟩ := hrel
    clear HCT
    have hsz := hC.sz
    have p0 := Mem.cell (v := .slice co n cp) hC.par 0 rfl
    by_cases hlt : k < n ∧ k < 70
    · obtain ⟨h1, h2⟩ := hlt
      have g0 : (0 : Int) ≤ (k : Int) := by omega
      have g1 : (k : Int) < (n : Int) := by omega
      have g2 : (k : Int) < 70 := by omega
      have hkl : k < cs.length := by rw [← HN.out]; exact h1
      obtain ⟨b, off, rfl, hbl, d0, d1, d2, d3, d4⟩ := (HV.out.below hC.hb).row hkl HN.out
      obtain ⟨vk, hvk⟩ : ∃ x, x = cs[k].k := ⟨_, rfl⟩
      obtain ⟨vn, hvn⟩ : ∃ x, x = cs[k].n := ⟨_, rfl⟩
      obtain ⟨vm, hvm⟩ : ∃ x : ByteArray, x = ⟨cs[k].nm.toArray⟩ := ⟨_, rfl⟩
      obtain ⟨vs, hvs⟩ : ∃ x : ByteArray, x = ⟨cs[k].l.S.toArray⟩ := ⟨_, rfl⟩
      obtain ⟨vi, hvi⟩ : ∃ x : ByteArray, x = ⟨cs[k].l.I.toArray⟩ := ⟨_, rfl⟩
      rw [← hvk] at d0
      rw [← hvn] at d1
      rw [← hvm] at d2
      rw [← hvs] at d3
      rw [← hvi] at d4
      have HX : Hid (((cs.take (k + 1)).map cutL).map vrow = ((cs.take k).map cutL).map vrow ++ [[.int .i64 vk, .int .i64 vn, .string vm, .string (cut6 vs), .string (cut6 vi)]]) := Lib.hid (by
        rw [List.take_add_one, List.getElem?_eq_getElem hkl, List.map_append, List.map_append, hvk, hvn, hvm, hvs, hvi, cut6_l, cut6_l]
        rfl)
      have hlen : ((cs.take k).map cutL).length = k := by
        rw [List.length_map, List.length_take]
        omega
      have HL2 : Hid (((cs.take (k + 1)).map cutL).length = k + 1) := Lib.hid (by
        rw [List.length_map, List.length_take]
        omega)
      have HLEN := Lib.hid hlen
      clear hvk hvn hvm hvs hvi hlen
      have HC := Lib.hid hC
      have HB0 := Lib.hid (below_al (Below.refl wr.heap.size wr) (.cells #[.int .i64 vk, .int .i64 vn, .string vm, .string vs, .string vi] 50))
      have hM := (Mem.nil wr).new (.cells #[.int .i64 vk, .int .i64 vn, .string vm, .string vs, .string vi] 50)
      have HM := Lib.hid hM
      clear hC hM
      go_upto_region 6 with fail
      refine wp_named ?_
      intro w1 hW1
      have hB1 := HB0.out
      have M1 := HM.out
      rw [← hW1] at M1 hB1
      clear hW1 HB0 HM d0 d1 d2 d3 d4 p0
      have c0 := Mem.cell (v := .int .i64 vk) M1.1 0 rfl
      have c1 := Mem.cell (v := .int .i64 vn) M1.1 1 rfl
      have c2 := Mem.cell (v := .string vm) M1.1 2 rfl
      have c3 := Mem.cell (v := .string vs) M1.1 3 rfl
      have c4 := Mem.cell (v := .string vi) M1.1 4 rfl
      have hsl1 := slice6 vs
      have hsl2 := slice6 vi
      go_still_tail 20, (by kernel_rfl)
      change wpList _ _ _ _ _ w1.drew
      obtain ⟨w2, hW2⟩ : ∃ x, x = w1.drew := ⟨_, rfl⟩
      have hB2 := below_dr hB1
      have M2 := Mem.drew M1
      rw [← hW2] at M2 hB2
      rw [← hW2]
      clear hW2 c0 c1 c2 c3 c4 hB1 M1 hsl1 hsl2
      have f2 := fun j => Mem.free M2.1 j
      have d3 := Mem.cell (v := .string vs) M2.1 3 rfl
      have d4 := Mem.cell (v := .string vi) M2.1 4 rfl
      have z2 := Mem.lt M2.1
      have hX2 : (w2.setCells wr.heap.size 3 [.string (cut6 vs), .string (cut6 vi)]).heap[wr.heap.size]? = some (.cells #[.int .i64 vk, .int .i64 vn, .string vm, .string (cut6 vs), .string (cut6 vi)] 50) := by rw [setCells_block [.string (cut6 vs), .string (cut6 vi)] 3 _ _ M2.1 (by simp)]; rfl
      have hY2 := below_setCells (B := wr.heap.size) hB2 (b := wr.heap.size) (Nat.le_refl _) 3 [.string (cut6 vs), .string (cut6 vi)]
      go_upto_region 7 with fail
      refine wp_named ?_
      intro w3 hW3
      replace hX2 : w3.heap[wr.heap.size]? = some (.cells #[.int .i64 vk, .int .i64 vn, .string vm, .string (cut6 vs), .string (cut6 vi)] 50) := by rw [hW3]; exact hX2
      replace hY2 : Below wr.heap.size wr w3 := by rw [hW3]; exact hY2
      clear hW3 f2 d3 d4 z2 M2 hB2
      obtain ⟨cv, hbk, hown⟩ := HC.out.ex
      have hbk3 := (hY2.block _ (by omega)).trans hbk
      have c0 := Mem.cell (v := cv) hbk3 0 rfl
      have f0 := Mem.free hbk3 0
      have e0 := Mem.cell (v := .int .i64 vk) hX2 0 rfl
      have e1 := Mem.cell (v := .int .i64 vn) hX2 1 rfl
      have e2 := Mem.cell (v := .string vm) hX2 2 rfl
      have e3 := Mem.cell (v := .string (cut6 vs)) hX2 3 rfl
      have e4 := Mem.cell (v := .string (cut6 vi)) hX2 4 rfl
      have hown3 := ownsRow_keep hown hY2
      rw [HLEN.out] at hown3
      have hlow := row_low hown
      have HBK := Lib.hid hbk
      have HOW := Lib.hid hown
      have HY2 := Lib.hid hY2
      have hsz3 := hY2.size
      clear hown hbk hX2 hY2 HV
      go_wp2_with (at_builtin; refine wpList_append_own _ rfl _ _ 24 rfl (w.heap.size + 3) 50 i0 _ 5 64 Tryz.underlying24 hi hz0 hz1 hz2 rfl (by decide) _ _ _ rfl (hown3.alloc _) ⟨w3.heap.size, 0, none⟩ 1 1 [.int .i64 vk, .int .i64 vn, .string vm, .string (cut6 vs), .string (cut6 vi)] rfl rfl (World.news_of_block (cs := #[.int .i64 vk, .int .i64 vn, .string vm, .string (cut6 vs), .string (cut6 vi)]) (t := 50) (fr := (0, 0)) (heap_alloc_new _ _)) (by simp [Value.oneCell']) (by unfold maxLen; omega) (by omega) (by simp; omega) ?_; intro v' w4 hown' hgrow _; obtain ⟨ao', n', cap', rfl⟩ := owns_slice hown'; have hbk4 : w4.heap[w.heap.size + 1 + 1]? = some (.cells #[cv, .slice fo m cq] 27) := (hgrow.block _ (by simp; omega) (fun e => by have := hlow _ e.symm; omega)).trans ((Lib.alloc_old w3 _ _ (by omega)).trans hbk3); have f4 := Mem.free hbk4 0; have d4 := Mem.cell (v := cv) hbk4 0 rfl)
      have hC2 := CT.step (cs' := (cs.take (k + 1)).map cutL) HC.out HBK.out HOW.out (below_al HY2.out _) hgrow (by
        rw [HL2.out, HX.out, List.flatten_append, List.flatten_singleton]
        exact hown')
      go_roundw
      case rel => exact ⟨k + 1, by omega, by omega, by go_num, hC2⟩
      case measure => simp [intOf]; omega
    · have hways : (n : Int) ≤ (k : Int) ∨ ((k : Int) < (n : Int) ∧ (70 : Int) ≤ (k : Int)) := by omega
      clear hlt
      have hfin : (cs.take k).map cutL = cutC cs := by
        unfold cutC
        have := HN.out
        rcases hways with h | ⟨h, h'⟩
        · rw [List.take_of_length_le (show cs.length ≤ k by omega), List.take_of_length_le (show cs.length ≤ 70 by omega)]
        · rw [show k = 70 by omega]
      rw [hfin] at hC
      obtain ⟨cv, hbk, hown⟩ := hC.ex
      obtain ⟨ao, n', cap, rfl⟩ := owns_slice hown
      obtain rfl := owns_len hown
      have c0 := Mem.cell (v := .slice ao (cutC cs).length cap) hbk 0 rfl
      have c1 := Mem.cell (v := .slice fo m cq) hbk 1 rfl
      have fr := fun j => Mem.free hC.res j
      have r0 := Mem.cell (v := .slice none 0 0) hC.res 0 rfl
      have r1 := Mem.cell (v := .slice none 0 0) hC.res 1 rfl
      have HC := Lib.hid hC
      have HOW := Lib.hid hown
      clear hC hbk hown hfin HV
      rcases hways with h | ⟨h, h'⟩
      all_goals
        go_wp2_with fail
        have hX := set_block HC.out.res [.slice ao (cutC cs).length cap, .slice fo m cq] rfl
        have hY := below_setCells (B := w.heap.size) HC.out.hb (b := w.heap.size + 1) (by omega) 0 [.slice ao (cutC cs).length cap, .slice fo m cq]
        have hO := owns_low (owns_set HOW.out (b := w.heap.size + 1) (by omega) 0 [.slice ao (cutC cs).length cap, .slice fo m cq]) (show w.heap.size ≤ w.heap.size + 3 by omega)
        obtain ⟨W_e, hW_e⟩ : ∃ W_e, W_e = wr.setCells (w.heap.size + 1) 0 [.slice ao (cutC cs).length cap, .slice fo m cq] := ⟨_, rfl⟩
        rw [← hW_e] at hX hY hO
        refine at_world hW_e ?_
        have k_0 := Mem.cell (v := .slice ao (cutC cs).length cap) hX 0 rfl
        have k_1 := Mem.cell (v := .slice fo m cq) hX 1 rfl
        refine bodyPost_ret (v := .agg #[.slice ao (cutC cs).length cap, .slice fo m cq]) (by simp [results, Tryz.results13, go_sem, k_0, k_1]) rfl ⟨_, _, rfl, hO, hY⟩
end Go.Proofs.YtiggallcoocdaaaGreatDoor
