/- few: the first six scopes, of small labels. -/
import Derived.Test.YtnmepcogijgbjaaGreatDoorHidC
import Derived.Test.YtnmepcogijgbjaaGreatDoorBeg
namespace Go.Proofs.YtnmepcogijgbjaaGreatDoor
open Go.RowKit
theorem ownsRow_but {w : World} {B k b off : Nat} {e : TypeId} {n : Nat} {v : Value} {xs vs : List Value} (h : w.ownsRow B e k v n xs) (hne : v.ownBlock ≠ some b) : (w.setCells b off vs).ownsRow B e k v n xs := by
  refine ⟨h.1, ?_⟩
  rcases h.2 with h0 | ⟨g, cap, cur, hv, hB, hg, hr⟩
  · exact .inl h0
  · refine .inr ⟨g, cap, cur, hv, hB, ?_, hr⟩
    have : g ≠ b := by
      rintro rfl
      exact hne (by rw [hv]; rfl)
    exact (setCells_other vs off w g (fun e => this e)).trans hg
def fewSc (s : Sc) : Sc := { s with lS := tk4 s.lS, lI := tk4 s.lI, cS := tk4 s.cS, cI := tk4 s.cI, kS := tk4 s.kS, kI := tk4 s.kI }
/-- the cells of the first six, made small -/
def few6 (l : List Sc) : List Value := (((l.take 6).map fewSc).map scL).flatten
set_option maxRecDepth 100000 in
set_option maxHeartbeats 8000000 in
theorem few_any (t : Th) (l : List Sc) (w : World) (hS : ScAt w t.sc l) (hn9 : t.sc.n ≤ 9223372036854775807) :
    Calls Tryz.prog 13 #[.agg (th t)] w fun e w' => ∃ so soc, e = .returned (.agg (th { t with cS := tk4 t.cS, cI := tk4 t.cI, kS := tk4 t.kS, kI := tk4 t.kI, sc := ⟨so, min l.length 6, soc⟩ })) ∧ w'.ownsRow w.heap.size 56 14 (.slice so (min l.length 6) soc) (min l.length 6) (few6 l) ∧ Below w.heap.size w w' := by
  obtain ⟨i0, hi, hz0, hz1, hz2⟩ := info_parts info_Scope
  have HS := Lib.hid hS
  have HN := Lib.hid hS.len
  clear hS
  go_enter Tryz.func13, Tryz.ntmps13
  have hB0 := Below.refl w.heap.size w
  have M0 := Mem.nil w
  go_upto_region 1 with (fail)
  refine wp_named ?_
  intro w1 hW1
  have hB1 : Below w.heap.size w w1 := by rw [hW1]; exact (below_al (below_al hB0 _) _)
  have M1 : Mem w1 [(w.heap.size + 1, .cells (th (th0)) 39), (w.heap.size, .cells (th (t)) 39)] := by rw [hW1]; exact ((M0).new' (w.heap.size) (by rfl) (.cells (th (t)) 39)).new' (w.heap.size + 1) (by simp) (.cells (th (th0)) 39)
  clear hW1
  have z1_0 := Mem.lt M1.1
  have z1_1 := Mem.lt M1.2.1
  go_cut [14] (fun s14 wx => Below w.heap.size w wx ∧ Mem wx [(w.heap.size + 1, .cells (th th0) 39), (w.heap.size, .cells (th { t with cS := tk4 t.cS, cI := tk4 t.cI, kS := tk4 t.kS, kI := tk4 t.kI }) 39)])
  case first =>
    have c1_1_2 := Mem.cell (v := .string t.cS) M1.2.1 2 rfl
    have c1_1_3 := Mem.cell (v := .string t.cI) M1.2.1 3 rfl
    have c1_1_4 := Mem.cell (v := .string t.kS) M1.2.1 4 rfl
    have c1_1_5 := Mem.cell (v := .string t.kI) M1.2.1 5 rfl
    have hBx := below_dr (Below.refl w1.heap.size w1)
    have fx := fun j => Mem.free M1.2.1 j
    have HMt := Lib.hid M1.2.1
    have HMr := Lib.hid M1.1
    have zt := Mem.lt M1.2.1
    have zr := Mem.lt M1.1
    go_region_with (first
      | (go_at_call 15; (with_reducible refine (small_any t.cS t.cI _).mono ?_); rintro e wn ⟨rfl, hbn⟩; replace hBx := below_then hBx hbn; have hgn := (fun (b o : Nat) (h : b < _) => hBx.cell (p := ⟨b, o, none⟩) h); have hfn := (fun (b o : Nat) (h : b < _) => hBx.frozen (p := ⟨b, o, none⟩) h))
      | (go_at_call 15; (with_reducible refine (small_any t.kS t.kI _).mono ?_); rintro e wn ⟨rfl, hbn⟩; replace hBx := below_then hBx hbn; have hgn := (fun (b o : Nat) (h : b < _) => hBx.cell (p := ⟨b, o, none⟩) h); have hfn := (fun (b o : Nat) (h : b < _) => hBx.frozen (p := ⟨b, o, none⟩) h)))
    all_goals
      have hMt := (hBx.block _ zt).trans HMt.out
      have hMr := (hBx.block _ zr).trans HMr.out
      go_wp2_with fail
      go_meet
      refine ⟨below_setCells (B := w.heap.size) (below_then hB1 hBx) (b := w.heap.size) (Nat.le_refl _) 2 [.string (tk4 t.cS), .string (tk4 t.cI), .string (tk4 t.kS), .string (tk4 t.kI)], (setCells_other [.string (tk4 t.cS), .string (tk4 t.cI), .string (tk4 t.kS), .string (tk4 t.kI)] 2 _ _ (by omega)).trans hMr, ?_, trivial⟩
      exact (setCells_block [.string (tk4 t.cS), .string (tk4 t.cI), .string (tk4 t.kS), .string (tk4 t.kI)] 2 _ _ hMt (by simp)).trans rfl
  case rest =>
    obtain ⟨hBx, hMx⟩ := hcut
    obtain ⟨w9, rfl⟩ : ∃ x, x = wc := ⟨_, rfl⟩
    have hB9 := hBx
    have M9 := hMx
    clear hMx hBx
    obtain ⟨t2, ht2⟩ : ∃ x : Th, x = { t with cS := tk4 t.cS, cI := tk4 t.cI, kS := tk4 t.kS, kI := tk4 t.kI } := ⟨_, rfl⟩
    rw [← ht2] at M9
    have hs2 : t2.sc = t.sc := by rw [ht2]
    have HT2 := Lib.hid ht2
    have HS2 : Hid (ScAt w t2.sc l) := Lib.hid (by rw [hs2]; exact HS.out)
    have HN2 : Hid (t2.sc.n = l.length) := Lib.hid (by rw [hs2]; exact HN.out)
    have hn2 : t2.sc.n ≤ 9223372036854775807 := by rw [hs2]; exact hn9
    clear ht2 hs2 hn9 HN HS
    have z9_0 := Mem.lt M9.1
    have z9_1 := Mem.lt M9.2.1
    go_wp2_with fail
    have HB9 := Lib.hid hB9
    have HM9 := Lib.hid M9
    obtain ⟨m, hm⟩ : ∃ m, m = min l.length 6 := ⟨_, rfl⟩
    have HMM := Lib.hid hm
    clear hm
    go_loopw [3, 4] (fun s3 s4 wr => ∃ (k : Nat) (so : Option Addr) (soc : Nat), k ≤ m ∧ s3 = .slice so k soc ∧ s4 = .int .i64 k ∧ Hid (wr.ownsRow (w.heap.size + 1 + 1) 56 14 (.slice so k soc) k (((l.take k).map fewSc).map scL).flatten) ∧ Below w.heap.size w wr ∧ Mem wr [(w.heap.size + 1, .cells (th th0) 39), (w.heap.size, .cells (th t2) 39)]) (fun _ s4 _ => 6 - (intOf s4).toNat)
    case atStart => exact ⟨0, none, 0, Nat.zero_le _, rfl, rfl, Lib.hid ⟨by simp, Or.inl ⟨rfl, rfl⟩⟩, HB9.out, HM9.out⟩
    case round =>
      obtain ⟨k, so, soc, hk, rfl, rfl, hown, hB, hM⟩ := hrel
      clear HB9 HM9
      obtain ⟨w20, rfl⟩ : ∃ x, x = wr := ⟨_, rfl⟩
      have hB20 := hB
      have M20 := hM
      clear hB hM
      have z20_0 := Mem.lt M20.1
      have z20_1 := Mem.lt M20.2.1
      have c20_1_9 := Mem.cell (v := .slice t2.sc.a t2.sc.n t2.sc.c) M20.2.1 9 rfl
      by_cases hlt : k < m
      · have hkl : k < l.length := by have := HMM.out; omega
        obtain ⟨b, off, hva, hcc, hbl, hrg⟩ := (HS2.out.below hB20).row hkl
        obtain ⟨s, hs⟩ : ∃ s, s = l[k] := ⟨_, rfl⟩
        rw [← hs] at hrg
        have HSK := Lib.hid hs
        have g1 : (0 : Int) ≤ (k : Int) := by omega
        have g2 : (k : Int) < (t2.sc.n : Int) := by have := HN2.out; omega
        have g3 : (k : Int) < 6 := by have := HMM.out; omega
        clear hs
        have HNE : (Value.slice so k soc).ownBlock ≠ some w20.heap.size := row_old hown.out
        go_upto_region 6 with (fail)
        rw [hva] at c20_1_9
        refine wp_region_lit ?_
        iterate 12 go_step
        refine load_sc rfl _ rfl b (off + k * 14) rfl s hrg ?_
        clear hrg hva
        iterate 3 go_step
        have oo20_0 : w.heap.size + 1 < w20.heap.size := Mem.lt M20.1
        have oo20_1 : w.heap.size < w20.heap.size := Mem.lt M20.2.1
        refine wpl_named ?_
        intro w21 hW21
        have hB21 : Below w.heap.size w w21 := by rw [hW21]; exact (below_al hB20 _)
        have M21 : Mem w21 [(w20.heap.size, .cells (sc (sc0)) 56), (w.heap.size + 1, .cells (th (th0)) 39), (w.heap.size, .cells (th (t2)) 39)] := by rw [hW21]; exact (M20).new' (w20.heap.size) (by rfl) (.cells (sc (sc0)) 56)
        have hS21 : Below w20.heap.size w20 w21 := by rw [hW21]; exact (below_al (Below.refl _ _) _)
        replace hown := hid_own hown hS21
        clear hS21
        clear z20_0 z20_1 c20_1_9
        clear hW21
        have z21_0 := Mem.lt M21.1
        have z21_1 := Mem.lt M21.2.1
        have z21_2 := Mem.lt M21.2.2.1
        refine store_sc rfl _ _ rfl (w20.heap.size) rfl (sc0) (s) rfl M21.1 ?_
        intro w22 hW22
        have hB22 : Below w.heap.size w w22 := by rw [hW22]; exact below_setCells (B := w.heap.size) hB21 (b := w20.heap.size) (by have := hB21.size; omega) 0 _
        have M22 : Mem w22 [(w20.heap.size, .cells (sc (s)) 56), (w.heap.size + 1, .cells (th (th0)) 39), (w.heap.size, .cells (th (t2)) 39)] := by rw [hW22]; exact ⟨set_sc M21.1 _, (setCells_other _ 0 _ _ (by omega)).trans M21.2.1, (setCells_other _ 0 _ _ (by omega)).trans M21.2.2.1, trivial⟩
        have hown2 := Lib.hid (ownsRow_but hown.out (off := 0) (vs := scL (s)) HNE)
        rw [← hW22] at hown2
        clear z21_0 z21_1 z21_2
        clear hW22
        have z22_0 := Mem.lt M22.1
        have z22_1 := Mem.lt M22.2.1
        have z22_2 := Mem.lt M22.2.2.1
        clear hown
        have c22_0_1 := Mem.cell (v := .string s.lS) M22.1 1 rfl
        have c22_0_2 := Mem.cell (v := .string s.lI) M22.1 2 rfl
        go_wp2_with fail
        refine Calls.named ?_
        intro W23 hW23
        have hB23_ : Below w.heap.size w W23 := by rw [hW23]; exact hB22
        have M23_ := M22
        rw [← hW23] at M23_
        have hS23 : Below w22.heap.size w22 W23 := by rw [hW23]; exact (Below.refl _ _)
        have hown2_ := hid_own hown2 hS23
        clear hS23 hown2
        clear hW23
        have ZZ23_0 := Lib.hid (Mem.lt M23_.1)
        have ZZ23_1 := Lib.hid (Mem.lt M23_.2.1)
        have ZZ23_2 := Lib.hid (Mem.lt M23_.2.2.1)
        clear z22_0 z22_1 z22_2 c22_0_1 c22_0_2
        refine (small_any s.lS s.lI _).mono ?_
        rintro e w23 ⟨rfl, hb23⟩
        have hown2 := hid_own hown2_ hb23
        clear hown2_
        have hB23 := below_then hB23_ hb23
        have M23 := M23_.below hb23
        clear M23_ hB23_ hb23
        have z23_0 := Mem.lt M23.1
        have z23_1 := Mem.lt M23.2.1
        have z23_2 := Mem.lt M23.2.2.1
        have c23_0_1 := Mem.cell (v := .string s.lS) M23.1 1 rfl
        have c23_0_2 := Mem.cell (v := .string s.lI) M23.1 2 rfl
        have fx := fun j => Mem.free M23.1 j
        go_upto_region 8 with (fail)
        clear fx
        have hX23_0 : (w23.setCells (w20.heap.size) 1 [.string (tk4 s.lS), .string (tk4 s.lI)]).heap[w20.heap.size]? = some (.cells (sc ({ s with lS := (tk4 s.lS), lI := (tk4 s.lI) })) 56) := by rw [setCells_block [.string (tk4 s.lS), .string (tk4 s.lI)] 1 _ _ ((M23).1) (by simp)]; rfl
        have hY23_0 := below_setCells (B := w.heap.size) hB23 (b := w20.heap.size) (by have := hB23.size; omega) 1 [.string (tk4 s.lS), .string (tk4 s.lI)]
        refine wp_named ?_
        intro w24 hW24
        have hB24 : Below w.heap.size w w24 := by rw [hW24]; exact hY23_0
        have M24 : Mem w24 [(w20.heap.size, .cells (sc ({ s with lS := (tk4 s.lS), lI := (tk4 s.lI) })) 56), (w.heap.size + 1, .cells (th (th0)) 39), (w.heap.size, .cells (th (t2)) 39)] := by rw [hW24]; exact ⟨hX23_0, (setCells_other [.string (tk4 s.lS), .string (tk4 s.lI)] 1 _ _ (by omega)).trans ((M23).2.1), (setCells_other [.string (tk4 s.lS), .string (tk4 s.lI)] 1 _ _ (by omega)).trans ((M23).2.2.1), trivial⟩
        have hown3 := Lib.hid (ownsRow_but hown2.out (off := 1) (vs := [.string (tk4 s.lS), .string (tk4 s.lI)]) HNE)
        rw [show (w23.setCells (w20.heap.size) 1 [.string (tk4 s.lS), .string (tk4 s.lI)]) = w24 from hW24.symm] at hown3
        clear z23_0 z23_1 z23_2 c23_0_1 c23_0_2
        clear hW24 hX23_0 hY23_0
        have z24_0 := Mem.lt M24.1
        have z24_1 := Mem.lt M24.2.1
        have z24_2 := Mem.lt M24.2.2.1
        clear hown2
        go_cut [44] (fun s44 wx => Below w.heap.size w wx ∧ Mem wx [(w20.heap.size, .cells (sc (fewSc s)) 56), (w.heap.size + 1, .cells (th th0) 39), (w.heap.size, .cells (th t2) 39)] ∧ Hid (wx.ownsRow (w.heap.size + 1 + 1) 56 14 (.slice so k soc) k (((l.take k).map fewSc).map scL).flatten))
        case first =>
          have c24_0_7 := Mem.cell (v := .string s.cS) M24.1 7 rfl
          have c24_0_8 := Mem.cell (v := .string s.cI) M24.1 8 rfl
          have c24_0_9 := Mem.cell (v := .string s.kS) M24.1 9 rfl
          have c24_0_10 := Mem.cell (v := .string s.kI) M24.1 10 rfl
          have hBx := below_dr (Below.refl w24.heap.size w24)
          have fx := fun j => Mem.free M24.1 j
          have HMx := Lib.hid M24.1
          have HMt := Lib.hid M24.2.2.1
          have HMr := Lib.hid M24.2.1
          have zx := Mem.lt M24.1
          have zt := Mem.lt M24.2.2.1
          have zr := Mem.lt M24.2.1
          go_region_with (first
            | (go_at_call 15; (with_reducible refine (small_any s.cS s.cI _).mono ?_); rintro e wn ⟨rfl, hbn⟩; replace hBx := below_then hBx hbn; have hgn := (fun (b o : Nat) (h : b < _) => hBx.cell (p := ⟨b, o, none⟩) h); have hfn := (fun (b o : Nat) (h : b < _) => hBx.frozen (p := ⟨b, o, none⟩) h))
            | (go_at_call 15; (with_reducible refine (small_any s.kS s.kI _).mono ?_); rintro e wn ⟨rfl, hbn⟩; replace hBx := below_then hBx hbn; have hgn := (fun (b o : Nat) (h : b < _) => hBx.cell (p := ⟨b, o, none⟩) h); have hfn := (fun (b o : Nat) (h : b < _) => hBx.frozen (p := ⟨b, o, none⟩) h)))
          all_goals
            have hMx := (hBx.block _ zx).trans HMx.out
            have hMt := (hBx.block _ zt).trans HMt.out
            have hMr := (hBx.block _ zr).trans HMr.out
            have hO := Lib.hid (ownsRow_but (b := w20.heap.size) (ownsRow_keep hown3.out hBx) (off := 7) (vs := [.string (tk4 s.cS), .string (tk4 s.cI), .string (tk4 s.kS), .string (tk4 s.kI)]) HNE)
            go_wp2_with fail
            go_meet
            refine ⟨below_setCells (B := w.heap.size) (below_then hB24 hBx) (b := w20.heap.size) (by omega) 7 [.string (tk4 s.cS), .string (tk4 s.cI), .string (tk4 s.kS), .string (tk4 s.kI)], ⟨?_, (setCells_other [.string (tk4 s.cS), .string (tk4 s.cI), .string (tk4 s.kS), .string (tk4 s.kI)] 7 _ _ (by omega)).trans hMr, (setCells_other [.string (tk4 s.cS), .string (tk4 s.cI), .string (tk4 s.kS), .string (tk4 s.kI)] 7 _ _ (by omega)).trans hMt, trivial⟩, hO⟩
            exact (setCells_block [.string (tk4 s.cS), .string (tk4 s.cI), .string (tk4 s.kS), .string (tk4 s.kI)] 7 _ _ hMx (by simp)).trans rfl
        case rest =>
          obtain ⟨hBy, hMy, hOy⟩ := hcut
          obtain ⟨w40, rfl⟩ : ∃ x, x = wc := ⟨_, rfl⟩
          have hB40 := hBy
          have M40 := hMy
          clear hMy hBy
          have z40_0 := Mem.lt M40.1
          have z40_1 := Mem.lt M40.2.1
          have z40_2 := Mem.lt M40.2.2.1
          have hfold := fold_sc (fewSc s)
          have hz40 := Mem.lt M40.1
          go_upto_region 9 with (fail)
          refine wp_region_lit ?_
          iterate 3 go_step
          refine loadb_sc rfl _ rfl (w20.heap.size) rfl ((fewSc s)) M40.1 ?_
          go_wp2_with (at_builtin; refine wpList_append_own _ rfl _ _ 37 rfl (w.heap.size + 1 + 1) 56 i0 _ 14 176 Tryz.underlying37 hi hz0 hz1 hz2 rfl (by decide) _ _ _ rfl (hOy.out.alloc _) ⟨w40.heap.size, 0, none⟩ 1 1 (scL (fewSc s)) rfl rfl (World.news_of_block (cs := sc (fewSc s)) (t := 56) (fr := (0, 0)) (heap_alloc_new _ _)) (one_scL _) (by unfold maxLen; omega) (by omega) (by simp; omega) ?_; intro v' w41 hown' hgrow _)
          have hrow : w41.ownsRow (w.heap.size + 1 + 1) 56 14 v' (k + 1) (((l.take (k + 1)).map fewSc).map scL).flatten := by
            have e : l.take (k + 1) = l.take k ++ [s] := by rw [List.take_add_one, List.getElem?_eq_getElem hkl, ← HSK.out]; rfl
            rw [e, List.map_append, List.map_append, List.flatten_append]
            simpa using hown'
          have hb2 : Below (w.heap.size + 1 + 1) w40 w41 := ((Below.refl _ w40).alloc (by omega) _).grown hgrow (by simp; omega) (row_low hOy.out)
          obtain ⟨so2, soc2, rfl, -⟩ := rows_owned hrow
          clear hown' hgrow hfold
          go_roundw
          case rel => exact ⟨k + 1, so2, soc2, by omega, rfl, by go_num, Lib.hid hrow, hB40.trans (hb2.mono (by omega)), (hb2.block _ (by omega)).trans M40.2.1, (hb2.block _ (by omega)).trans M40.2.2.1, trivial⟩
          case measure => simp [intOf]; omega
      · obtain rfl : k = m := by omega
        have hex : ¬ ((k : Int) < (t2.sc.n : Int)) ∨ ((k : Int) < (t2.sc.n : Int) ∧ ¬ ((k : Int) < 6)) := by have a := HMM.out; have b := HN2.out; omega
        have z20_0 := Mem.lt M20.1
        have z20_1 := Mem.lt M20.2.1
        have ft := fun j => Mem.free M20.2.1 j
        have hend : ∀ (W : World), W.ownsRow w.heap.size 56 14 (.slice so k soc) k (((l.take k).map fewSc).map scL).flatten → W.ownsRow w.heap.size 56 14 (.slice so (min l.length 6) soc) (min l.length 6) (few6 l) := fun W h => by
          have e : l.take 6 = l.take k := by
            rw [HMM.out]
            rcases Nat.le_total l.length 6 with h | h
            · rw [Nat.min_eq_left h, List.take_of_length_le h, List.take_of_length_le (Nat.le_refl _)]
            · rw [Nat.min_eq_right h]
          unfold few6
          rw [e, ← HMM.out]
          exact h
        have hthe : Ending.returned (.agg (th { t2 with sc := ⟨so, k, soc⟩ })) = Ending.returned (.agg (th { t with cS := tk4 t.cS, cI := tk4 t.cI, kS := tk4 t.kS, kI := tk4 t.kI, sc := ⟨so, min l.length 6, soc⟩ })) := by rw [HT2.out, ← HMM.out]
        have HEND := Lib.hid hend
        have HTHE := Lib.hid hthe
        clear hend hthe
        rcases hex with hex | ⟨hex, hex2⟩
        · skip
          go_upto_region 11 with (fail)
          clear ft
          have hX20_0 : (w20.setCells (w.heap.size) 9 [.slice so k soc]).heap[w.heap.size]? = some (.cells (th ({ t2 with sc := ⟨so, k, soc⟩ })) 39) := by rw [setCells_block [.slice so k soc] 9 _ _ ((M20).2.1) (by simp)]; rfl
          have hY20_0 := below_setCells (B := w.heap.size) hB20 (b := w.heap.size) (by have := hB20.size; omega) 9 [.slice so k soc]
          refine wp_named ?_
          intro w21 hW21
          have hB21 : Below w.heap.size w w21 := by rw [hW21]; exact hY20_0
          have M21 : Mem w21 [(w.heap.size + 1, .cells (th (th0)) 39), (w.heap.size, .cells (th ({ t2 with sc := ⟨so, k, soc⟩ })) 39)] := by rw [hW21]; exact ⟨(setCells_other [.slice so k soc] 9 _ _ (by omega)).trans ((M20).1), hX20_0, trivial⟩
          have hO := Lib.hid (ownsRow_set hown.out (b := w.heap.size) (by omega) 9 [.slice so k soc])
          rw [show (w20.setCells (w.heap.size) 9 [.slice so k soc]) = w21 from hW21.symm] at hO
          clear z20_0 z20_1
          clear hW21 hX20_0 hY20_0
          have z21_0 := Mem.lt M21.1
          have z21_1 := Mem.lt M21.2.1
          refine wp_region_lit ?_
          refine load_th rfl _ rfl (w.heap.size) rfl ({ t2 with sc := ⟨so, k, soc⟩ }) M21.2.1 ?_
          refine store_th rfl _ _ rfl (w.heap.size + 1) rfl (th0) ({ t2 with sc := ⟨so, k, soc⟩ }) rfl M21.1 (one_th _) ?_
          intro w22 hW22
          have hB22 : Below w.heap.size w w22 := by rw [hW22]; exact below_setCells (B := w.heap.size) hB21 (b := w.heap.size + 1) (by have := hB21.size; omega) 0 _
          have M22 : Mem w22 [(w.heap.size + 1, .cells (th ({ t2 with sc := ⟨so, k, soc⟩ })) 39), (w.heap.size, .cells (th ({ t2 with sc := ⟨so, k, soc⟩ })) 39)] := by rw [hW22]; exact ⟨set_th M21.1 _, (setCells_other _ 0 _ _ (by omega)).trans M21.2.1, trivial⟩
          have hO2 := ownsRow_set hO.out (b := w.heap.size + 1) (by omega) 0 (th ({ t2 with sc := ⟨so, k, soc⟩ })).toList
          rw [← hW22] at hO2
          clear z21_0 z21_1
          clear hW22
          have z22_0 := Mem.lt M22.1
          have z22_1 := Mem.lt M22.2.1
          go_wp2_with fail
          refine bodyPost_ret (v := .agg (th ({ t2 with sc := ⟨so, k, soc⟩ }))) (results_th1 Tryz.results13 _ _ (w.heap.size + 1) ({ t2 with sc := ⟨so, k, soc⟩ }) rfl M22.1) rfl ⟨so, soc, HTHE.out, HEND.out _ (ownsRow_low hO2 (by omega)), hB22⟩
        · skip
          go_upto_region 11 with (fail)
          clear ft
          have hX20_0 : (w20.setCells (w.heap.size) 9 [.slice so k soc]).heap[w.heap.size]? = some (.cells (th ({ t2 with sc := ⟨so, k, soc⟩ })) 39) := by rw [setCells_block [.slice so k soc] 9 _ _ ((M20).2.1) (by simp)]; rfl
          have hY20_0 := below_setCells (B := w.heap.size) hB20 (b := w.heap.size) (by have := hB20.size; omega) 9 [.slice so k soc]
          refine wp_named ?_
          intro w21 hW21
          have hB21 : Below w.heap.size w w21 := by rw [hW21]; exact hY20_0
          have M21 : Mem w21 [(w.heap.size + 1, .cells (th (th0)) 39), (w.heap.size, .cells (th ({ t2 with sc := ⟨so, k, soc⟩ })) 39)] := by rw [hW21]; exact ⟨(setCells_other [.slice so k soc] 9 _ _ (by omega)).trans ((M20).1), hX20_0, trivial⟩
          have hO := Lib.hid (ownsRow_set hown.out (b := w.heap.size) (by omega) 9 [.slice so k soc])
          rw [show (w20.setCells (w.heap.size) 9 [.slice so k soc]) = w21 from hW21.symm] at hO
          clear z20_0 z20_1
          clear hW21 hX20_0 hY20_0
          have z21_0 := Mem.lt M21.1
          have z21_1 := Mem.lt M21.2.1
          refine wp_region_lit ?_
          refine load_th rfl _ rfl (w.heap.size) rfl ({ t2 with sc := ⟨so, k, soc⟩ }) M21.2.1 ?_
          refine store_th rfl _ _ rfl (w.heap.size + 1) rfl (th0) ({ t2 with sc := ⟨so, k, soc⟩ }) rfl M21.1 (one_th _) ?_
          intro w22 hW22
          have hB22 : Below w.heap.size w w22 := by rw [hW22]; exact below_setCells (B := w.heap.size) hB21 (b := w.heap.size + 1) (by have := hB21.size; omega) 0 _
          have M22 : Mem w22 [(w.heap.size + 1, .cells (th ({ t2 with sc := ⟨so, k, soc⟩ })) 39), (w.heap.size, .cells (th ({ t2 with sc := ⟨so, k, soc⟩ })) 39)] := by rw [hW22]; exact ⟨set_th M21.1 _, (setCells_other _ 0 _ _ (by omega)).trans M21.2.1, trivial⟩
          have hO2 := ownsRow_set hO.out (b := w.heap.size + 1) (by omega) 0 (th ({ t2 with sc := ⟨so, k, soc⟩ })).toList
          rw [← hW22] at hO2
          clear z21_0 z21_1
          clear hW22
          have z22_0 := Mem.lt M22.1
          have z22_1 := Mem.lt M22.2.1
          go_wp2_with fail
          refine bodyPost_ret (v := .agg (th ({ t2 with sc := ⟨so, k, soc⟩ }))) (results_th1 Tryz.results13 _ _ (w.heap.size + 1) ({ t2 with sc := ⟨so, k, soc⟩ }) rfl M22.1) rfl ⟨so, soc, HTHE.out, HEND.out _ (ownsRow_low hO2 (by omega)), hB22⟩
end Go.Proofs.YtnmepcogijgbjaaGreatDoor
