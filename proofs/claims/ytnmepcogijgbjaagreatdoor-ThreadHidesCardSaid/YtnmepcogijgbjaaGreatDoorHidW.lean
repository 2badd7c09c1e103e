/- What is hidden at a label is hidden again as the same. The walk, behind the examples. -/
import Derived.Test.YtnmepcogijgbjaaGreatDoorZF
import Derived.Test.YtnmepcogijgbjaaGreatDoorLoadW
namespace Go.Proofs.YtnmepcogijgbjaaGreatDoor
open Go.RowKit
set_option maxRecDepth 100000 in
set_option maxHeartbeats 8000000 in
theorem hides_core (t : Th) (l : List Sc) (lS lI mS mI : ByteArray) (w : World) (hw : Laid w) (hL : Lists w t) (hS : ScAt w t.sc l) (hn : t.sc.n ≤ maxLen) (HEX : ∀ W, Laid W → Calls Tryz.prog 6 #[] W fun e w' => e = .returned (.bool true) ∧ Below W.heap.size W w') :
    Calls Tryz.prog 4 #[.agg (th t), .agg #[.string lS, .string lI], .agg #[.string mS, .string mI]] w fun e w' => e = .returned (.bool true) ∧ Below w.heap.size w w' := by
  have HLS := Lib.hid fun (W : World) (hb : Below w.heap.size w W) => hL.below hb
  have HSC := Lib.hid fun (W : World) (hb : Below w.heap.size w W) => hS.below hb
  unfold maxLen at hn
  have HN := Lib.hid (show t.sc.n ≤ 9223372036854775807 by omega)
  clear hL hS hn
  obtain ⟨jS, hjS⟩ : ∃ x, x = NB (tk4 lS) := ⟨_, rfl⟩
  obtain ⟨jI, hjI⟩ : ∃ x, x = NB (tk4 lI) := ⟨_, rfl⟩
  have HJ := Lib.hid fun (W : World) => show Calls Tryz.prog 14 #[.agg #[.string (tk4 lS), .string (tk4 lI)]] W fun e w' => e = .returned (.agg #[.string jS, .string jI]) ∧ Below W.heap.size W w' from by rw [hjS, hjI]; exact lnorm_any _ _ (tk4_bd lS) (tk4_bd lI) W
  have b1 : Bd jS := by rw [hjS]; have := nb_size (tk4 lS); unfold Bd; omega
  have b2 : Bd jI := by rw [hjI]; have := nb_size (tk4 lI); unfold Bd; omega
  clear hjS hjI
  obtain ⟨nS, hnS⟩ : ∃ x, x = NOr jS (tk4 mS) := ⟨_, rfl⟩
  obtain ⟨nI, hnI⟩ : ∃ x, x = NAnd jI (tk4 mI) := ⟨_, rfl⟩
  have HM := Lib.hid fun (W : World) => show Calls Tryz.prog 16 #[.agg #[.string jS, .string jI], .agg #[.string (tk4 mS), .string (tk4 mI)]] W fun e w' => e = .returned (.agg #[.string nS, .string nI]) ∧ Below W.heap.size W w' from by rw [hnS, hnI]; exact meet_any jS jI (tk4 mS) (tk4 mI) b1 b2 (tk4_bd mS) (tk4_bd mI) W
  have b3 : Bd nS := by rw [hnS]; have := nor_size jS (tk4 mS); unfold Bd; omega
  have b4 : Bd nI := by rw [hnI]; have := nand_size jI (tk4 mI); unfold Bd; omega
  have HFL := Lib.hid fun (u : Th) (R : List Sc) (hr : Rising R) => hides_facts u R hr b1 b2 b3 b4 (show flowsB nS nI jS jI = true by rw [hnS, hnI]; exact meet_left _ _ _ _)
  clear hnS hnI b1 b2 b3 b4
  go_enter Tryz.func4, Tryz.ntmps4
  have hB0 := Below.refl w.heap.size w
  have M0 := Mem.nil w
  have hw0 := hw
  go_wp2_with fail
  refine Calls.named ?_
  intro W1 hW1
  have hB1_ : Below w.heap.size w W1 := by rw [hW1]; exact (below_al (below_al (below_al hB0 _) _) _)
  have hw1_ : Laid W1 := by rw [hW1]; exact (((hw.alloc _).alloc _).alloc _)
  have M1_ : Mem W1 [(w.heap.size + 1 + 1, .cells #[.string mS, .string mI] 24), (w.heap.size + 1, .cells #[.string lS, .string lI] 24), (w.heap.size, .cells (th (t)) 39)] := by rw [hW1]; exact (((M0).new' (w.heap.size) (by rfl) (.cells (th (t)) 39)).new' (w.heap.size + 1) (by simp) (.cells #[.string lS, .string lI] 24)).new' (w.heap.size + 1 + 1) (by simp) (.cells #[.string mS, .string mI] 24)
  clear hW1
  have ZZ1_0 := Lib.hid (Mem.lt M1_.1)
  have ZZ1_1 := Lib.hid (Mem.lt M1_.2.1)
  have ZZ1_2 := Lib.hid (Mem.lt M1_.2.2.1)
  refine (HEX _ hw1_).mono ?_
  rintro e w1 ⟨rfl, hb1⟩
  have hB1 := below_then hB1_ hb1
  have hw1 := hw1_.below hb1
  have M1 := M1_.below hb1
  clear M1_ hB1_ hb1 hw1_
  have c1_0_0 := Mem.cell (v := .string mS) M1.1 0 rfl
  have c1_0_1 := Mem.cell (v := .string mI) M1.1 1 rfl
  have z1_0 := Mem.lt M1.1
  have c1_1_0 := Mem.cell (v := .string lS) M1.2.1 0 rfl
  have c1_1_1 := Mem.cell (v := .string lI) M1.2.1 1 rfl
  have z1_1 := Mem.lt M1.2.1
  have z1_2 := Mem.lt M1.2.2.1
  go_upto_region 4 with (fail)
  refine wp_region_lit ?_
  refine load_th rfl _ rfl (w.heap.size) rfl (t) M1.2.2.1 ?_
  go_wp2_with fail
  refine Calls.named ?_
  intro W2 hW2
  have hB2_ : Below w.heap.size w W2 := by rw [hW2]; exact hB1
  have hw2_ : Laid W2 := by rw [hW2]; exact hw1
  have M2_ := M1
  rw [← hW2] at M2_
  clear hW2
  have ZZ2_0 := Lib.hid (Mem.lt M2_.1)
  have ZZ2_1 := Lib.hid (Mem.lt M2_.2.1)
  have ZZ2_2 := Lib.hid (Mem.lt M2_.2.2.1)
  clear c1_0_0 c1_0_1 z1_0 c1_1_0 c1_1_1 z1_1 z1_2
  refine (few_th t l _ (HSC.out _ hB2_) HN.out).mono ?_
  rintro e w2 ⟨u, so, n, soc, L, rfl, HU, hown, hb2⟩
  have hB2 := below_then hB2_ hb2
  have hw2 := hw2_.below hb2
  have M2 := M2_.below hb2
  clear M2_ hB2_ hb2 hw2_
  have c2_0_0 := Mem.cell (v := .string mS) M2.1 0 rfl
  have c2_0_1 := Mem.cell (v := .string mI) M2.1 1 rfl
  have z2_0 := Mem.lt M2.1
  have c2_1_0 := Mem.cell (v := .string lS) M2.2.1 0 rfl
  have c2_1_1 := Mem.cell (v := .string lI) M2.2.1 1 rfl
  have z2_1 := Mem.lt M2.2.1
  have z2_2 := Mem.lt M2.2.2.1
  have zt := ZZ2_2.out
  have zl := ZZ2_1.out
  have zm := ZZ2_0.out
  simp only
  iterate 1 go_step
  refine store_th rfl _ _ rfl (w.heap.size) rfl (t) (u) rfl M2.2.2.1 (one_th _) ?_
  intro w3 hW3
  have hB3 : Below w.heap.size w w3 := by rw [hW3]; exact below_setCells (B := w.heap.size) hB2 (b := w.heap.size) (by have := hB2.size; omega) 0 _
  have hw3 : Laid w3 := hw0.below hB3
  have M3 : Mem w3 [(w.heap.size + 1 + 1, .cells #[.string mS, .string mI] 24), (w.heap.size + 1, .cells #[.string lS, .string lI] 24), (w.heap.size, .cells (th (u)) 39)] := by rw [hW3]; exact ⟨(setCells_other _ 0 _ _ (by omega)).trans M2.1, (setCells_other _ 0 _ _ (by omega)).trans M2.2.1, set_th M2.2.2.1 _, trivial⟩
  have hown3 := Lib.hid (ownsRow_set hown.out (b := w.heap.size) (by omega) 0 (th (u)).toList)
  rw [← hW3] at hown3
  clear c2_0_0 c2_0_1 z2_0 c2_1_0 c2_1_1 z2_1 z2_2
  clear hW3
  have c3_0_0 := Mem.cell (v := .string mS) M3.1 0 rfl
  have c3_0_1 := Mem.cell (v := .string mI) M3.1 1 rfl
  have z3_0 := Mem.lt M3.1
  have c3_1_0 := Mem.cell (v := .string lS) M3.2.1 0 rfl
  have c3_1_1 := Mem.cell (v := .string lI) M3.2.1 1 rfl
  have z3_1 := Mem.lt M3.2.1
  have z3_2 := Mem.lt M3.2.2.1
  clear hown
  go_wp2_with fail
  have HBX := Lib.hid hB3
  have HMX := Lib.hid M3
  have HZ := Lib.hid (And.intro zt (And.intro zl zm))
  clear zt zl zm
  go_loopw [8] (fun i wr => ∃ k : Nat, k ≤ n ∧ i = .int .i64 k ∧ Below w.heap.size w wr ∧ Mem wr [(w.heap.size + 1 + 1, .cells #[.string mS, .string mI] 24), (w.heap.size + 1, .cells #[.string lS, .string lI] 24), (w.heap.size, .cells (th u) 39)] ∧ Hid (wr.ownsRow W2.heap.size 56 14 (.slice so n soc) n (((mix L k).map scL).flatten))) (fun i _ => n - (intOf i).toNat)
  case atStart => exact ⟨0, Nat.zero_le _, rfl, HBX.out, HMX.out, by rw [mix_zero]; exact hown3⟩
  case round =>
    obtain ⟨k, hk, rfl, hB, hM, hR⟩ := hrel
    clear HBX HMX hown3
    obtain ⟨w20, rfl⟩ : ∃ x, x = wr := ⟨_, rfl⟩
    have hB20 := hB
    have hw20 := hw.below hB
    have M20 := hM
    clear hB hM
    have c20_0_0 := Mem.cell (v := .string mS) M20.1 0 rfl
    have c20_0_1 := Mem.cell (v := .string mI) M20.1 1 rfl
    have z20_0 := Mem.lt M20.1
    have c20_1_0 := Mem.cell (v := .string lS) M20.2.1 0 rfl
    have c20_1_1 := Mem.cell (v := .string lI) M20.2.1 1 rfl
    have z20_1 := Mem.lt M20.2.1
    have z20_2 := Mem.lt M20.2.2.1
    have ct := Mem.cell (v := .slice u.sc.a u.sc.n u.sc.c) M20.2.2.1 9 rfl
    rw [HU.out.1] at ct
    simp only at ct
    by_cases hlt : k < n
    · skip
      have g1 : (0 : Int) ≤ (k : Int) := by omega
      have g2 : (k : Int) < (n : Int) := by omega
      have e2 : IntKind.i64.wrap ((k : Int) + 1) = (k : Int) + 1 := IntWalk.i64_in _ ⟨by omega, by have := HU.out.2.2.2.2.2.2.2.1; omega⟩
      by_cases hk0 : k = 0
      · skip
        have e0 : ((k : Int) == 0) = true := by rw [hk0]; rfl
        have HK0 := Lib.hid hk0
        clear hk0
        have HB9 := Lib.hid hB20
        have HM9 := Lib.hid M20
        go_wp2_with fail
        go_roundw
        case rel => 
          refine ⟨k + 1, by omega, by go_num, HB9.out, HM9.out, ?_⟩
          have e := HK0.out
          subst e
          rw [mix_one]
          rw [mix_zero] at hR
          exact hR
        case measure => simp [intOf]; omega
      · skip
        obtain ⟨p, HP⟩ : ∃ p, Hid (p + 1 = k) := ⟨k - 1, Lib.hid (by omega)⟩
        have e0 : ((k : Int) == 0) = false := by simp; omega
        have e1 : IntKind.i64.wrap ((k : Int) - 1) = (p : Int) := by
          have h1 := HP.out
          have h2 : (k : Int) - 1 = (p : Int) := by omega
          rw [h2]
          exact IntWalk.i64_in _ ⟨by omega, by have := HU.out.2.2.2.2.2.2.2.1; omega⟩
        have g3 : (0 : Int) ≤ (p : Int) := by omega
        have g4 : (p : Int) < (n : Int) := by have := HP.out; omega
        obtain ⟨g, rfl, hg, hg2⟩ := row_addr hR.out (by omega)
        have hkL : k < L.length := by have := HU.out.2.2.2.2.2.2.1; omega
        have hkM : k < (mix L k).length := by rw [mix_length]; exact hkL
        have hpM : p < (mix L k).length := by have := HP.out; omega
        have hnM : n = (mix L k).length := by rw [mix_length]; exact HU.out.2.2.2.2.2.2.1
        obtain ⟨s, hs⟩ : ∃ s, (mix L k)[k]? = some s := ⟨_, List.getElem?_eq_getElem hkM⟩
        obtain ⟨q, hq⟩ : ∃ q, (mix L k)[p]? = some q := ⟨_, List.getElem?_eq_getElem hpM⟩
        obtain ⟨M0, hM0⟩ : ∃ M, M = mix L k := ⟨_, rfl⟩
        have HS0 : Hid (M0.length = n ∧ k < n ∧ p < n ∧ p ≠ k ∧ M0[k]? = some s ∧ M0[p]? = some q) := Lib.hid (by subst hM0; exact ⟨hnM.symm, by omega, by omega, by have := HP.out; omega, hs, hq⟩)
        have HEND : Hid (mix L (k + 1) = M0.set k (upSc q s)) := Lib.hid (by rw [hM0]; exact mix_step L k p hkL HP.out hq hs)
        rw [← hM0] at hR
        clear hs hq hM0 hnM hkM hpM hkL hk0
        have og1 : w.heap.size + 1 + 1 < g := by have := HZ.out; omega
        have og2 : w.heap.size + 1 < g := by omega
        have og3 : w.heap.size < g := by omega
        clear hg
        replace hR := Lib.hid (row_same hR.out HS0.out.2.2.2.2.1)
        have cs := (row_cellk 4 (.int .i64 s.fr) hR.out (by have := HS0.out; omega) (by decide) rfl).1
        have cq := row_cellp 4 (.int .i64 q.fr) hR.out HS0.out.2.2.2.1 HS0.out.2.2.2.2.2 (by decide) rfl
        go_upto_region 9 with (fail)
        go_still_tail 19, (by kernel_rfl)
        change wpList _ _ _ _ _ w20.drew
        obtain ⟨w21, hW21⟩ : ∃ x, x = w20.drew := ⟨_, rfl⟩
        have hB21 : Below w.heap.size w w21 := by rw [hW21]; exact below_dr hB20
        have hw21 : Laid w21 := hw0.below hB21
        have M21 := Mem.drew M20
        rw [← hW21] at M21
        rw [← hW21]
        replace hR := hid_own hR (below_dr (Below.refl _ w20))
        rw [← hW21] at hR
        clear c20_0_0 c20_0_1 z20_0 c20_1_0 c20_1_1 z20_1 z20_2
        clear hW21
        have c21_0_0 := Mem.cell (v := .string mS) M21.1 0 rfl
        have c21_0_1 := Mem.cell (v := .string mI) M21.1 1 rfl
        have z21_0 := Mem.lt M21.1
        have c21_1_0 := Mem.cell (v := .string lS) M21.2.1 0 rfl
        have c21_1_1 := Mem.cell (v := .string lI) M21.2.1 1 rfl
        have z21_1 := Mem.lt M21.2.1
        have z21_2 := Mem.lt M21.2.2.1
        have fs := (row_cellk 4 (.int .i64 s.fr) hR.out (by have := HS0.out; omega) (by decide) rfl).2
        replace cs := (row_cellk 4 (.int .i64 s.fr) hR.out (by have := HS0.out; omega) (by decide) rfl).1
        clear cq ct
        go_upto_region 10 with (fail)
        refine wp_named ?_
        intro w22 hW22
        clear cs fs
        have hE22 : w22 = w21.setCells g (k * 14 + 4) [.int .i64 (max s.fr q.fr)] := hW22
        have hB22 : Below w.heap.size w w22 := by rw [hE22]; exact below_setCells hB21 (by omega) _ _
        have hw22 : Laid w22 := hw.below hB22
        have M22 : Mem w22 [(w.heap.size + 1 + 1, .cells #[.string mS, .string mI] 24), (w.heap.size + 1, .cells #[.string lS, .string lI] 24), (w.heap.size, .cells (th u) 39)] := by rw [hE22]; exact ⟨(setCells_other _ _ _ _ (by omega)).trans M21.1, (setCells_other _ _ _ _ (by omega)).trans M21.2.1, (setCells_other _ _ _ _ (by omega)).trans M21.2.2.1, trivial⟩
        have hR22 := Lib.hid (row_setk (s' := { s with fr := max s.fr q.fr }) 4 (.int .i64 (max s.fr q.fr)) hR.out (by have := HS0.out; omega) HS0.out.1 (by decide) rfl)
        rw [← hE22] at hR22
        clear hW22 hE22 hR
        have hR := hR22
        clear hR22
        have c22_0_0 := Mem.cell (v := .string mS) M22.1 0 rfl
        have c22_0_1 := Mem.cell (v := .string mI) M22.1 1 rfl
        have z22_0 := Mem.lt M22.1
        have c22_1_0 := Mem.cell (v := .string lS) M22.2.1 0 rfl
        have c22_1_1 := Mem.cell (v := .string lI) M22.2.1 1 rfl
        have z22_1 := Mem.lt M22.2.1
        have z22_2 := Mem.lt M22.2.2.1
        have ct := Mem.cell (v := .slice u.sc.a u.sc.n u.sc.c) M22.2.2.1 9 rfl
        rw [HU.out.1] at ct
        simp only at ct
        have cs := (row_cellk 5 (.int .i64 s.ht) hR.out (by have := HS0.out; omega) (by decide) rfl).1
        have cq := row_cellp 5 (.int .i64 q.ht) hR.out HS0.out.2.2.2.1 HS0.out.2.2.2.2.2 (by decide) rfl
        go_still_tail 19, (by kernel_rfl)
        change wpList _ _ _ _ _ w22.drew
        obtain ⟨w23, hW23⟩ : ∃ x, x = w22.drew := ⟨_, rfl⟩
        have hB23 : Below w.heap.size w w23 := by rw [hW23]; exact below_dr hB22
        have hw23 : Laid w23 := hw0.below hB23
        have M23 := Mem.drew M22
        rw [← hW23] at M23
        rw [← hW23]
        replace hR := hid_own hR (below_dr (Below.refl _ w22))
        rw [← hW23] at hR
        clear c22_0_0 c22_0_1 z22_0 c22_1_0 c22_1_1 z22_1 z22_2
        clear hW23
        have c23_0_0 := Mem.cell (v := .string mS) M23.1 0 rfl
        have c23_0_1 := Mem.cell (v := .string mI) M23.1 1 rfl
        have z23_0 := Mem.lt M23.1
        have c23_1_0 := Mem.cell (v := .string lS) M23.2.1 0 rfl
        have c23_1_1 := Mem.cell (v := .string lI) M23.2.1 1 rfl
        have z23_1 := Mem.lt M23.2.1
        have z23_2 := Mem.lt M23.2.2.1
        have fs := (row_cellk 5 (.int .i64 s.ht) hR.out (by have := HS0.out; omega) (by decide) rfl).2
        replace cs := (row_cellk 5 (.int .i64 s.ht) hR.out (by have := HS0.out; omega) (by decide) rfl).1
        clear cq ct
        go_upto_region 11 with (fail)
        refine wp_named ?_
        intro w24 hW24
        clear cs fs
        have hE24 : w24 = w23.setCells g (k * 14 + 5) [.int .i64 (max s.ht q.ht)] := hW24
        have hB24 : Below w.heap.size w w24 := by rw [hE24]; exact below_setCells hB23 (by omega) _ _
        have hw24 : Laid w24 := hw.below hB24
        have M24 : Mem w24 [(w.heap.size + 1 + 1, .cells #[.string mS, .string mI] 24), (w.heap.size + 1, .cells #[.string lS, .string lI] 24), (w.heap.size, .cells (th u) 39)] := by rw [hE24]; exact ⟨(setCells_other _ _ _ _ (by omega)).trans M23.1, (setCells_other _ _ _ _ (by omega)).trans M23.2.1, (setCells_other _ _ _ _ (by omega)).trans M23.2.2.1, trivial⟩
        have hR24 := Lib.hid (row_setk (s' := { s with fr := max s.fr q.fr, ht := max s.ht q.ht }) 5 (.int .i64 (max s.ht q.ht)) hR.out (by have := HS0.out; omega) HS0.out.1 (by decide) rfl)
        rw [← hE24] at hR24
        clear hW24 hE24 hR
        have hR := hR24
        clear hR24
        have c24_0_0 := Mem.cell (v := .string mS) M24.1 0 rfl
        have c24_0_1 := Mem.cell (v := .string mI) M24.1 1 rfl
        have z24_0 := Mem.lt M24.1
        have c24_1_0 := Mem.cell (v := .string lS) M24.2.1 0 rfl
        have c24_1_1 := Mem.cell (v := .string lI) M24.2.1 1 rfl
        have z24_1 := Mem.lt M24.2.1
        have z24_2 := Mem.lt M24.2.2.1
        have ct := Mem.cell (v := .slice u.sc.a u.sc.n u.sc.c) M24.2.2.1 9 rfl
        rw [HU.out.1] at ct
        simp only at ct
        have cs := (row_cellk 6 (.int .i64 s.tr) hR.out (by have := HS0.out; omega) (by decide) rfl).1
        have cq := row_cellp 6 (.int .i64 q.tr) hR.out HS0.out.2.2.2.1 HS0.out.2.2.2.2.2 (by decide) rfl
        go_still_tail 19, (by kernel_rfl)
        change wpList _ _ _ _ _ w24.drew
        obtain ⟨w25, hW25⟩ : ∃ x, x = w24.drew := ⟨_, rfl⟩
        have hB25 : Below w.heap.size w w25 := by rw [hW25]; exact below_dr hB24
        have hw25 : Laid w25 := hw0.below hB25
        have M25 := Mem.drew M24
        rw [← hW25] at M25
        rw [← hW25]
        replace hR := hid_own hR (below_dr (Below.refl _ w24))
        rw [← hW25] at hR
        clear c24_0_0 c24_0_1 z24_0 c24_1_0 c24_1_1 z24_1 z24_2
        clear hW25
        have c25_0_0 := Mem.cell (v := .string mS) M25.1 0 rfl
        have c25_0_1 := Mem.cell (v := .string mI) M25.1 1 rfl
        have z25_0 := Mem.lt M25.1
        have c25_1_0 := Mem.cell (v := .string lS) M25.2.1 0 rfl
        have c25_1_1 := Mem.cell (v := .string lI) M25.2.1 1 rfl
        have z25_1 := Mem.lt M25.2.1
        have z25_2 := Mem.lt M25.2.2.1
        have fs := (row_cellk 6 (.int .i64 s.tr) hR.out (by have := HS0.out; omega) (by decide) rfl).2
        replace cs := (row_cellk 6 (.int .i64 s.tr) hR.out (by have := HS0.out; omega) (by decide) rfl).1
        clear cq ct
        go_upto_region 7 with (fail)
        refine wp_named ?_
        intro w26 hW26
        clear cs fs
        have hE26 : w26 = w25.setCells g (k * 14 + 6) [.int .i64 (max s.tr q.tr)] := hW26
        have hB26 : Below w.heap.size w w26 := by rw [hE26]; exact below_setCells hB25 (by omega) _ _
        have hw26 : Laid w26 := hw.below hB26
        have M26 : Mem w26 [(w.heap.size + 1 + 1, .cells #[.string mS, .string mI] 24), (w.heap.size + 1, .cells #[.string lS, .string lI] 24), (w.heap.size, .cells (th u) 39)] := by rw [hE26]; exact ⟨(setCells_other _ _ _ _ (by omega)).trans M25.1, (setCells_other _ _ _ _ (by omega)).trans M25.2.1, (setCells_other _ _ _ _ (by omega)).trans M25.2.2.1, trivial⟩
        have hR26 := Lib.hid (row_setk (s' := upSc q s) 6 (.int .i64 (max s.tr q.tr)) hR.out (by have := HS0.out; omega) HS0.out.1 (by decide) rfl)
        rw [← hE26] at hR26
        clear hW26 hE26 hR
        have hR := hR26
        clear hR26
        have c26_0_0 := Mem.cell (v := .string mS) M26.1 0 rfl
        have c26_0_1 := Mem.cell (v := .string mI) M26.1 1 rfl
        have z26_0 := Mem.lt M26.1
        have c26_1_0 := Mem.cell (v := .string lS) M26.2.1 0 rfl
        have c26_1_1 := Mem.cell (v := .string lI) M26.2.1 1 rfl
        have z26_1 := Mem.lt M26.2.1
        have z26_2 := Mem.lt M26.2.2.1
        have ct := Mem.cell (v := .slice u.sc.a u.sc.n u.sc.c) M26.2.2.1 9 rfl
        rw [HU.out.1] at ct
        simp only at ct
        have HB9 := Lib.hid hB26
        have HM9 := Lib.hid M26
        go_wp2_with fail
        go_roundw
        case rel => exact ⟨k + 1, by omega, by go_num, HB9.out, HM9.out, by rw [HEND.out]; exact hR⟩
        case measure => simp [intOf]; omega
    · skip
      obtain rfl : k = n := by omega
      have hRR : Hid (w20.ownsRow W2.heap.size 56 14 (.slice so k soc) k (((rise L).map scL).flatten)) := Lib.hid (by
        have h1 := hR.out
        rw [show mix L k = rise L by rw [HU.out.2.2.2.2.2.2.1]; exact mix_all L] at h1
        exact h1)
      clear hR
      have hR := hRR
      clear hRR
      have zm := HZ.out.2.2
      have zl := HZ.out.2.1
      clear hk
      have g2 : ¬ ((k : Int) < (k : Int)) := by omega
      go_upto_region 12 with (fail)
      clear ct hlt
      go_wp2_with fail
      refine Calls.named ?_
      intro W21 hW21
      have hB21_ : Below w.heap.size w W21 := by rw [hW21]; exact hB20
      have hw21_ : Laid W21 := by rw [hW21]; exact hw20
      have M21_ := M20
      rw [← hW21] at M21_
      have hS21 : Below w20.heap.size w20 W21 := by rw [hW21]; exact (Below.refl _ _)
      have hR_ := hid_own hR hS21
      clear hS21 hR
      clear hW21
      have ZZ21_0 := Lib.hid (Mem.lt M21_.1)
      have ZZ21_1 := Lib.hid (Mem.lt M21_.2.1)
      have ZZ21_2 := Lib.hid (Mem.lt M21_.2.2.1)
      clear c20_0_0 c20_0_1 z20_0 c20_1_0 c20_1_1 z20_1 z20_2
      refine (small_any lS lI _).mono ?_
      rintro e w21 ⟨rfl, hb21⟩
      have hR := hid_own hR_ hb21
      clear hR_
      have hB21 := below_then hB21_ hb21
      have hw21 := hw21_.below hb21
      have M21 := M21_.below hb21
      clear M21_ hB21_ hb21 hw21_
      have c21_0_0 := Mem.cell (v := .string mS) M21.1 0 rfl
      have c21_0_1 := Mem.cell (v := .string mI) M21.1 1 rfl
      have z21_0 := Mem.lt M21.1
      have c21_1_0 := Mem.cell (v := .string lS) M21.2.1 0 rfl
      have c21_1_1 := Mem.cell (v := .string lI) M21.2.1 1 rfl
      have z21_1 := Mem.lt M21.2.1
      have z21_2 := Mem.lt M21.2.2.1
      go_wp2_with fail
      refine Calls.named ?_
      intro W22 hW22
      have hB22_ : Below w.heap.size w W22 := by rw [hW22]; exact hB21
      have hw22_ : Laid W22 := by rw [hW22]; exact hw21
      have M22_ := M21
      rw [← hW22] at M22_
      have hS22 : Below w21.heap.size w21 W22 := by rw [hW22]; exact (Below.refl _ _)
      have hR_ := hid_own hR hS22
      clear hS22 hR
      clear hW22
      have ZZ22_0 := Lib.hid (Mem.lt M22_.1)
      have ZZ22_1 := Lib.hid (Mem.lt M22_.2.1)
      have ZZ22_2 := Lib.hid (Mem.lt M22_.2.2.1)
      clear c21_0_0 c21_0_1 z21_0 c21_1_0 c21_1_1 z21_1 z21_2
      refine (HJ.out _).mono ?_
      rintro e w22 ⟨rfl, hb22⟩
      have hR := hid_own hR_ hb22
      clear hR_
      have hB22 := below_then hB22_ hb22
      have hw22 := hw22_.below hb22
      have M22 := M22_.below hb22
      clear M22_ hB22_ hb22 hw22_
      have c22_0_0 := Mem.cell (v := .string mS) M22.1 0 rfl
      have c22_0_1 := Mem.cell (v := .string mI) M22.1 1 rfl
      have z22_0 := Mem.lt M22.1
      have c22_1_0 := Mem.cell (v := .string lS) M22.2.1 0 rfl
      have c22_1_1 := Mem.cell (v := .string lI) M22.2.1 1 rfl
      have z22_1 := Mem.lt M22.2.1
      have z22_2 := Mem.lt M22.2.2.1
      have fa := fun j => Mem.free M22.2.1 j
      go_upto_region 13 with (fail)
      clear fa
      have hX22_0 : (w22.setCells (w.heap.size + 1) 0 [.string jS, .string jI]).heap[w.heap.size + 1]? = some (.cells #[.string jS, .string jI] 24) := by rw [setCells_block [.string jS, .string jI] 0 _ _ ((M22).2.1) (by simp)]; rfl
      have hY22_0 := below_setCells (B := w.heap.size) hB22 (b := w.heap.size + 1) (by have := hB22.size; omega) 0 [.string jS, .string jI]
      refine wp_named ?_
      intro w23 hW23
      have hB23 : Below w.heap.size w w23 := by rw [hW23]; exact hY22_0
      have hw23 : Laid w23 := hw0.below hB23
      have M23 : Mem w23 [(w.heap.size + 1 + 1, .cells #[.string mS, .string mI] 24), (w.heap.size + 1, .cells #[.string jS, .string jI] 24), (w.heap.size, .cells (th (u)) 39)] := by rw [hW23]; exact ⟨(setCells_other [.string jS, .string jI] 0 _ _ (by omega)).trans ((M22).1), hX22_0, (setCells_other [.string jS, .string jI] 0 _ _ (by omega)).trans ((M22).2.2.1), trivial⟩
      have hR3 := Lib.hid (ownsRow_set hR.out (b := w.heap.size + 1) (by omega) 0 [.string jS, .string jI])
      rw [show (w22.setCells (w.heap.size + 1) 0 [.string jS, .string jI]) = w23 from hW23.symm] at hR3
      clear c22_0_0 c22_0_1 z22_0 c22_1_0 c22_1_1 z22_1 z22_2
      clear hW23 hX22_0 hY22_0
      have c23_0_0 := Mem.cell (v := .string mS) M23.1 0 rfl
      have c23_0_1 := Mem.cell (v := .string mI) M23.1 1 rfl
      have z23_0 := Mem.lt M23.1
      have c23_1_0 := Mem.cell (v := .string jS) M23.2.1 0 rfl
      have c23_1_1 := Mem.cell (v := .string jI) M23.2.1 1 rfl
      have z23_1 := Mem.lt M23.2.1
      have z23_2 := Mem.lt M23.2.2.1
      clear hR
      go_cut [96] (fun s96 wx => Below w.heap.size w wx ∧ Mem wx [(w.heap.size + 1 + 1, .cells #[.string nS, .string nI] 24), (w.heap.size + 1, .cells #[.string jS, .string jI] 24), (w.heap.size, .cells (th u) 39)] ∧ Hid (wx.ownsRow W2.heap.size 56 14 (.slice so k soc) k (((rise L).map scL).flatten)))
      case first =>
        have hBx := below_dr (Below.refl w23.heap.size w23)
        have fx := fun j => Mem.free M23.1 j
        have HMm := Lib.hid M23.1
        have HMl := Lib.hid M23.2.1
        have HMt := Lib.hid M23.2.2.1
        have zzm := Mem.lt M23.1
        have zzl := Mem.lt M23.2.1
        have zzt := Mem.lt M23.2.2.1
        go_region_with (first
          | (go_at_call 15; (with_reducible refine (small_any mS mI _).mono ?_); rintro e wn ⟨rfl, hbn⟩; replace hBx := below_then hBx hbn; have hgn := (fun (b o : Nat) (h : b < _) => hBx.cell (p := ⟨b, o, none⟩) h); have hfn := (fun (b o : Nat) (h : b < _) => hBx.frozen (p := ⟨b, o, none⟩) h))
          | (go_at_call 16; (with_reducible refine (HM.out _).mono ?_); rintro e wn ⟨rfl, hbn⟩; replace hBx := below_then hBx hbn; have hgn := (fun (b o : Nat) (h : b < _) => hBx.cell (p := ⟨b, o, none⟩) h); have hfn := (fun (b o : Nat) (h : b < _) => hBx.frozen (p := ⟨b, o, none⟩) h)))
        all_goals
          have hMm := (hBx.block _ zzm).trans HMm.out
          have hMl := (hBx.block _ zzl).trans HMl.out
          have hMt := (hBx.block _ zzt).trans HMt.out
          have hO := Lib.hid (ownsRow_set (b := w.heap.size + 1 + 1) (ownsRow_keep hR3.out hBx) (by omega) 0 [.string nS, .string nI])
          go_wp2_with fail
          go_meet
          refine ⟨below_setCells (B := w.heap.size) (below_then hB23 hBx) (b := w.heap.size + 1 + 1) (by omega) 0 [.string nS, .string nI], ⟨?_, (setCells_other [.string nS, .string nI] 0 _ _ (by omega)).trans hMl, (setCells_other [.string nS, .string nI] 0 _ _ (by omega)).trans hMt, trivial⟩, hO⟩
          exact set_block hMm [.string nS, .string nI] rfl
      case rest =>
        obtain ⟨hBx, hMx, hRx⟩ := hcut
        obtain ⟨w40, rfl⟩ : ∃ x, x = wc := ⟨_, rfl⟩
        have hB40 := hBx
        have M40 := hMx
        have hw40 : Laid w40 := hw.below hBx
        clear hMx hBx hR3
        have c40_0_0 := Mem.cell (v := .string nS) M40.1 0 rfl
        have c40_0_1 := Mem.cell (v := .string nI) M40.1 1 rfl
        have z40_0 := Mem.lt M40.1
        have c40_1_0 := Mem.cell (v := .string jS) M40.2.1 0 rfl
        have c40_1_1 := Mem.cell (v := .string jI) M40.2.1 1 rfl
        have z40_1 := Mem.lt M40.2.1
        have z40_2 := Mem.lt M40.2.2.1
        have HAT := Lib.hid (At.own (HLS.out w40 hB40) HU.out hRx.out)
        obtain ⟨h, Lh, ok, o, Lo, seen, f1, f2, f3, f4, f5, f6, f7⟩ := HFL.out u (rise L) (rise_rising L)
        have F1 := Lib.hid f1
        have F2 := Lib.hid f2
        have F3 := Lib.hid f3
        have F4 := Lib.hid f4
        have F5 := Lib.hid f5
        have F6 := Lib.hid f6
        have F7 := Lib.hid f7
        clear f1 f2 f3 f4 f5 f6 f7 hRx
        have hX := Lib.hid (Below.refl w40.heap.size w40)
        go_upto_region 14 with (fail)
        refine wp_region_lit ?_
        refine load_th rfl _ rfl (w.heap.size) rfl (u) M40.2.2.1 ?_
        go_wp2_with fail
        refine Calls.named ?_
        intro W41 hW41
        have hB41_ : Below w.heap.size w W41 := by rw [hW41]; exact hB40
        have hw41_ : Laid W41 := by rw [hW41]; exact hw40
        have M41_ := M40
        rw [← hW41] at M41_
        have hS41 : Below w40.heap.size w40 W41 := by rw [hW41]; exact (Below.refl _ _)
        have hX_ := hid_then hX hS41
        clear hS41 hX
        clear hW41
        have ZZ41_0 := Lib.hid (Mem.lt M41_.1)
        have ZZ41_1 := Lib.hid (Mem.lt M41_.2.1)
        have ZZ41_2 := Lib.hid (Mem.lt M41_.2.2.1)
        clear c40_0_0 c40_0_1 z40_0 c40_1_0 c40_1_1 z40_1 z40_2
        refine (F1.out _ (HAT.out.below hX_.out)).mono ?_
        rintro e w41 ⟨rfl, hb41⟩
        have hX := hid_then hX_ hb41
        clear hX_
        have hB41 := below_then hB41_ hb41
        have hw41 := hw41_.below hb41
        have M41 := M41_.below hb41
        clear M41_ hB41_ hb41 hw41_
        have c41_0_0 := Mem.cell (v := .string nS) M41.1 0 rfl
        have c41_0_1 := Mem.cell (v := .string nI) M41.1 1 rfl
        have z41_0 := Mem.lt M41.1
        have c41_1_0 := Mem.cell (v := .string jS) M41.2.1 0 rfl
        have c41_1_1 := Mem.cell (v := .string jI) M41.2.1 1 rfl
        have z41_1 := Mem.lt M41.2.1
        have z41_2 := Mem.lt M41.2.2.1
        simp only
        iterate 13 go_step
        have zX := hX.out.size
        have oo41_0 : w.heap.size + 1 + 1 < w41.heap.size := Mem.lt M41.1
        have oo41_1 : w.heap.size + 1 < w41.heap.size := Mem.lt M41.2.1
        have oo41_2 : w.heap.size < w41.heap.size := Mem.lt M41.2.2.1
        refine wpl_named ?_
        intro w42 hW42
        have hB42 : Below w.heap.size w w42 := by rw [hW42]; exact (below_al hB41 _)
        have hw42 : Laid w42 := by rw [hW42]; exact (hw41.alloc _)
        have M42 : Mem w42 [(w41.heap.size, .cells (th (th0)) 39), (w.heap.size + 1 + 1, .cells #[.string nS, .string nI] 24), (w.heap.size + 1, .cells #[.string jS, .string jI] 24), (w.heap.size, .cells (th (u)) 39)] := by rw [hW42]; exact (M41).new' (w41.heap.size) (by rfl) (.cells (th (th0)) 39)
        have hS42 : Below w41.heap.size w41 w42 := by rw [hW42]; exact (below_al (Below.refl _ _) _)
        replace hX := hid_then hX hS42
        clear hS42
        clear c41_0_0 c41_0_1 z41_0 c41_1_0 c41_1_1 z41_1 z41_2
        clear hW42
        have z42_0 := Mem.lt M42.1
        have c42_1_0 := Mem.cell (v := .string nS) M42.2.1 0 rfl
        have c42_1_1 := Mem.cell (v := .string nI) M42.2.1 1 rfl
        have z42_1 := Mem.lt M42.2.1
        have c42_2_0 := Mem.cell (v := .string jS) M42.2.2.1 0 rfl
        have c42_2_1 := Mem.cell (v := .string jI) M42.2.2.1 1 rfl
        have z42_2 := Mem.lt M42.2.2.1
        have z42_3 := Mem.lt M42.2.2.2.1
        refine store_th rfl _ _ rfl (w41.heap.size) rfl (th0) (h) rfl M42.1 (one_th _) ?_
        intro w43 hW43
        have hB43 : Below w.heap.size w w43 := by rw [hW43]; exact below_setCells (B := w.heap.size) hB42 (b := w41.heap.size) (by have := hB42.size; omega) 0 _
        have hw43 : Laid w43 := hw0.below hB43
        have M43 : Mem w43 [(w41.heap.size, .cells (th (h)) 39), (w.heap.size + 1 + 1, .cells #[.string nS, .string nI] 24), (w.heap.size + 1, .cells #[.string jS, .string jI] 24), (w.heap.size, .cells (th (u)) 39)] := by rw [hW43]; exact ⟨set_th M42.1 _, (setCells_other _ 0 _ _ (by omega)).trans M42.2.1, (setCells_other _ 0 _ _ (by omega)).trans M42.2.2.1, (setCells_other _ 0 _ _ (by omega)).trans M42.2.2.2.1, trivial⟩
        have hX2 := Lib.hid (below_setCells hX.out (b := w41.heap.size) (by omega) 0 (th (h)).toList)
        rw [← hW43] at hX2
        clear z42_0 c42_1_0 c42_1_1 z42_1 c42_2_0 c42_2_1 z42_2 z42_3
        clear hW43
        have z43_0 := Mem.lt M43.1
        have c43_1_0 := Mem.cell (v := .string nS) M43.2.1 0 rfl
        have c43_1_1 := Mem.cell (v := .string nI) M43.2.1 1 rfl
        have z43_1 := Mem.lt M43.2.1
        have c43_2_0 := Mem.cell (v := .string jS) M43.2.2.1 0 rfl
        have c43_2_1 := Mem.cell (v := .string jI) M43.2.2.1 1 rfl
        have z43_2 := Mem.lt M43.2.2.1
        have z43_3 := Mem.lt M43.2.2.2.1
        clear hX
        clear zX
        cases ok with
        | false =>
          obtain ⟨hs, hh⟩ := F5.out rfl
          subst hs
          have HH := Lib.hid hh
          clear hh
          have hSame := Lib.hid fun (W : World) => show Calls Tryz.prog 18 #[.agg (th h), .agg (th th0)] W fun e w' => e = .returned (.bool true) ∧ Below W.heap.size W w' from by rw [HH.out]; exact same_any th0 [] W (At.nil W)
          go_upto_region 16 with (fail)
          refine wp_region_lit ?_
          refine load_th rfl _ rfl (w.heap.size) rfl (u) M43.2.2.2.1 ?_
          go_wp2_with fail
          refine Calls.named ?_
          intro W44 hW44
          have hB44_ : Below w.heap.size w W44 := by rw [hW44]; exact hB43
          have hw44_ : Laid W44 := by rw [hW44]; exact hw43
          have M44_ := M43
          rw [← hW44] at M44_
          have hS44 : Below w43.heap.size w43 W44 := by rw [hW44]; exact (Below.refl _ _)
          have hX2_ := hid_then hX2 hS44
          clear hS44 hX2
          clear hW44
          have ZZ44_0 := Lib.hid (Mem.lt M44_.1)
          have ZZ44_1 := Lib.hid (Mem.lt M44_.2.1)
          have ZZ44_2 := Lib.hid (Mem.lt M44_.2.2.1)
          have ZZ44_3 := Lib.hid (Mem.lt M44_.2.2.2.1)
          clear z43_0 c43_1_0 c43_1_1 z43_1 c43_2_0 c43_2_1 z43_2 z43_3
          refine (F3.out _ (HAT.out.below hX2_.out)).mono ?_
          rintro e w44 ⟨rfl, hb44⟩
          have hX2 := hid_then hX2_ hb44
          clear hX2_
          have hB44 := below_then hB44_ hb44
          have hw44 := hw44_.below hb44
          have M44 := M44_.below hb44
          clear M44_ hB44_ hb44 hw44_
          have z44_0 := Mem.lt M44.1
          have c44_1_0 := Mem.cell (v := .string nS) M44.2.1 0 rfl
          have c44_1_1 := Mem.cell (v := .string nI) M44.2.1 1 rfl
          have z44_1 := Mem.lt M44.2.1
          have c44_2_0 := Mem.cell (v := .string jS) M44.2.2.1 0 rfl
          have c44_2_1 := Mem.cell (v := .string jI) M44.2.2.1 1 rfl
          have z44_2 := Mem.lt M44.2.2.1
          have z44_3 := Mem.lt M44.2.2.2.1
          simp only
          iterate 13 go_step
          have zX := hX2.out.size
          have oo44_0 : w41.heap.size < w44.heap.size := Mem.lt M44.1
          have oo44_1 : w.heap.size + 1 + 1 < w44.heap.size := Mem.lt M44.2.1
          have oo44_2 : w.heap.size + 1 < w44.heap.size := Mem.lt M44.2.2.1
          have oo44_3 : w.heap.size < w44.heap.size := Mem.lt M44.2.2.2.1
          refine wpl_named ?_
          intro w45 hW45
          have hB45 : Below w.heap.size w w45 := by rw [hW45]; exact (below_al hB44 _)
          have hw45 : Laid w45 := by rw [hW45]; exact (hw44.alloc _)
          have M45 : Mem w45 [(w44.heap.size, .cells (th (th0)) 39), (w41.heap.size, .cells (th (h)) 39), (w.heap.size + 1 + 1, .cells #[.string nS, .string nI] 24), (w.heap.size + 1, .cells #[.string jS, .string jI] 24), (w.heap.size, .cells (th (u)) 39)] := by rw [hW45]; exact (M44).new' (w44.heap.size) (by rfl) (.cells (th (th0)) 39)
          have hS45 : Below w44.heap.size w44 w45 := by rw [hW45]; exact (below_al (Below.refl _ _) _)
          replace hX2 := hid_then hX2 hS45
          clear hS45
          clear z44_0 c44_1_0 c44_1_1 z44_1 c44_2_0 c44_2_1 z44_2 z44_3
          clear hW45
          have z45_0 := Mem.lt M45.1
          have z45_1 := Mem.lt M45.2.1
          have c45_2_0 := Mem.cell (v := .string nS) M45.2.2.1 0 rfl
          have c45_2_1 := Mem.cell (v := .string nI) M45.2.2.1 1 rfl
          have z45_2 := Mem.lt M45.2.2.1
          have c45_3_0 := Mem.cell (v := .string jS) M45.2.2.2.1 0 rfl
          have c45_3_1 := Mem.cell (v := .string jI) M45.2.2.2.1 1 rfl
          have z45_3 := Mem.lt M45.2.2.2.1
          have z45_4 := Mem.lt M45.2.2.2.2.1
          refine store_th rfl _ _ rfl (w44.heap.size) rfl (th0) (o) rfl M45.1 (one_th _) ?_
          intro w46 hW46
          have hB46 : Below w.heap.size w w46 := by rw [hW46]; exact below_setCells (B := w.heap.size) hB45 (b := w44.heap.size) (by have := hB45.size; omega) 0 _
          have hw46 : Laid w46 := hw0.below hB46
          have M46 : Mem w46 [(w44.heap.size, .cells (th (o)) 39), (w41.heap.size, .cells (th (h)) 39), (w.heap.size + 1 + 1, .cells #[.string nS, .string nI] 24), (w.heap.size + 1, .cells #[.string jS, .string jI] 24), (w.heap.size, .cells (th (u)) 39)] := by rw [hW46]; exact ⟨set_th M45.1 _, (setCells_other _ 0 _ _ (by omega)).trans M45.2.1, (setCells_other _ 0 _ _ (by omega)).trans M45.2.2.1, (setCells_other _ 0 _ _ (by omega)).trans M45.2.2.2.1, (setCells_other _ 0 _ _ (by omega)).trans M45.2.2.2.2.1, trivial⟩
          have hX3 := Lib.hid (below_setCells hX2.out (b := w44.heap.size) (by omega) 0 (th (o)).toList)
          rw [← hW46] at hX3
          clear z45_0 z45_1 c45_2_0 c45_2_1 z45_2 c45_3_0 c45_3_1 z45_3 z45_4
          clear hW46
          have z46_0 := Mem.lt M46.1
          have z46_1 := Mem.lt M46.2.1
          have c46_2_0 := Mem.cell (v := .string nS) M46.2.2.1 0 rfl
          have c46_2_1 := Mem.cell (v := .string nI) M46.2.2.1 1 rfl
          have z46_2 := Mem.lt M46.2.2.1
          have c46_3_0 := Mem.cell (v := .string jS) M46.2.2.2.1 0 rfl
          have c46_3_1 := Mem.cell (v := .string jI) M46.2.2.2.1 1 rfl
          have z46_3 := Mem.lt M46.2.2.2.1
          have z46_4 := Mem.lt M46.2.2.2.2.1
          clear hX2
          have hX2 := hX3
          clear hX3 zX
          go_upto_region 17 with (fail)
          refine wp_region_lit ?_
          iterate 16 go_step
          refine load_th_w rfl _ rfl (w41.heap.size) rfl ((h)) M46.2.1 ?_
          go_wp2_with fail
          refine Calls.named ?_
          intro W47 hW47
          have hB47_ : Below w.heap.size w W47 := by rw [hW47]; exact hB46
          have hw47_ : Laid W47 := by rw [hW47]; exact hw46
          have M47_ := M46
          rw [← hW47] at M47_
          have hS47 : Below w46.heap.size w46 W47 := by rw [hW47]; exact (Below.refl _ _)
          have hX2_ := hid_then hX2 hS47
          clear hS47 hX2
          clear hW47
          have ZZ47_0 := Lib.hid (Mem.lt M47_.1)
          have ZZ47_1 := Lib.hid (Mem.lt M47_.2.1)
          have ZZ47_2 := Lib.hid (Mem.lt M47_.2.2.1)
          have ZZ47_3 := Lib.hid (Mem.lt M47_.2.2.2.1)
          have ZZ47_4 := Lib.hid (Mem.lt M47_.2.2.2.2.1)
          clear z46_0 z46_1 c46_2_0 c46_2_1 z46_2 c46_3_0 c46_3_1 z46_3 z46_4
          refine (hSame.out _).mono ?_
          rintro e w47 ⟨rfl, hb47⟩
          have hX2 := hid_then hX2_ hb47
          clear hX2_
          have hB47 := below_then hB47_ hb47
          have hw47 := hw47_.below hb47
          have M47 := M47_.below hb47
          clear M47_ hB47_ hb47 hw47_
          have z47_0 := Mem.lt M47.1
          have z47_1 := Mem.lt M47.2.1
          have c47_2_0 := Mem.cell (v := .string nS) M47.2.2.1 0 rfl
          have c47_2_1 := Mem.cell (v := .string nI) M47.2.2.1 1 rfl
          have z47_2 := Mem.lt M47.2.2.1
          have c47_3_0 := Mem.cell (v := .string jS) M47.2.2.2.1 0 rfl
          have c47_3_1 := Mem.cell (v := .string jI) M47.2.2.2.1 1 rfl
          have z47_3 := Mem.lt M47.2.2.2.1
          have z47_4 := Mem.lt M47.2.2.2.2.1
          go_wp2_with fail
          go_ret
          exact ⟨rfl, hB47⟩
        | true =>
          replace F6 := Lib.hid (F6.out rfl)
          go_upto_region 18 with (fail)
          refine wp_region_lit ?_
          refine load_th rfl _ rfl (w41.heap.size) rfl (h) M43.1 ?_
          go_wp2_with fail
          refine Calls.named ?_
          intro W44 hW44
          have hB44_ : Below w.heap.size w W44 := by rw [hW44]; exact hB43
          have hw44_ : Laid W44 := by rw [hW44]; exact hw43
          have M44_ := M43
          rw [← hW44] at M44_
          have hS44 : Below w43.heap.size w43 W44 := by rw [hW44]; exact (Below.refl _ _)
          have hX2_ := hid_then hX2 hS44
          clear hS44 hX2
          clear hW44
          have ZZ44_0 := Lib.hid (Mem.lt M44_.1)
          have ZZ44_1 := Lib.hid (Mem.lt M44_.2.1)
          have ZZ44_2 := Lib.hid (Mem.lt M44_.2.2.1)
          have ZZ44_3 := Lib.hid (Mem.lt M44_.2.2.2.1)
          clear z43_0 c43_1_0 c43_1_1 z43_1 c43_2_0 c43_2_1 z43_2 z43_3
          refine (F6.out _ (F2.out _ (HAT.out.below hX2_.out))).mono ?_
          rintro e w44 ⟨rfl, hb44⟩
          have hX2 := hid_then hX2_ hb44
          clear hX2_
          have hB44 := below_then hB44_ hb44
          have hw44 := hw44_.below hb44
          have M44 := M44_.below hb44
          clear M44_ hB44_ hb44 hw44_
          have z44_0 := Mem.lt M44.1
          have c44_1_0 := Mem.cell (v := .string nS) M44.2.1 0 rfl
          have c44_1_1 := Mem.cell (v := .string nI) M44.2.1 1 rfl
          have z44_1 := Mem.lt M44.2.1
          have c44_2_0 := Mem.cell (v := .string jS) M44.2.2.1 0 rfl
          have c44_2_1 := Mem.cell (v := .string jI) M44.2.2.1 1 rfl
          have z44_2 := Mem.lt M44.2.2.1
          have z44_3 := Mem.lt M44.2.2.2.1
          simp only
          iterate 13 go_step
          have zX := hX2.out.size
          have oo44_0 : w41.heap.size < w44.heap.size := Mem.lt M44.1
          have oo44_1 : w.heap.size + 1 + 1 < w44.heap.size := Mem.lt M44.2.1
          have oo44_2 : w.heap.size + 1 < w44.heap.size := Mem.lt M44.2.2.1
          have oo44_3 : w.heap.size < w44.heap.size := Mem.lt M44.2.2.2.1
          refine wpl_named ?_
          intro w45 hW45
          have hB45 : Below w.heap.size w w45 := by rw [hW45]; exact (below_al hB44 _)
          have hw45 : Laid w45 := by rw [hW45]; exact (hw44.alloc _)
          have M45 : Mem w45 [(w44.heap.size, .cells (th (th0)) 39), (w41.heap.size, .cells (th (h)) 39), (w.heap.size + 1 + 1, .cells #[.string nS, .string nI] 24), (w.heap.size + 1, .cells #[.string jS, .string jI] 24), (w.heap.size, .cells (th (u)) 39)] := by rw [hW45]; exact (M44).new' (w44.heap.size) (by rfl) (.cells (th (th0)) 39)
          have hS45 : Below w44.heap.size w44 w45 := by rw [hW45]; exact (below_al (Below.refl _ _) _)
          replace hX2 := hid_then hX2 hS45
          clear hS45
          clear z44_0 c44_1_0 c44_1_1 z44_1 c44_2_0 c44_2_1 z44_2 z44_3
          clear hW45
          have z45_0 := Mem.lt M45.1
          have z45_1 := Mem.lt M45.2.1
          have c45_2_0 := Mem.cell (v := .string nS) M45.2.2.1 0 rfl
          have c45_2_1 := Mem.cell (v := .string nI) M45.2.2.1 1 rfl
          have z45_2 := Mem.lt M45.2.2.1
          have c45_3_0 := Mem.cell (v := .string jS) M45.2.2.2.1 0 rfl
          have c45_3_1 := Mem.cell (v := .string jI) M45.2.2.2.1 1 rfl
          have z45_3 := Mem.lt M45.2.2.2.1
          have z45_4 := Mem.lt M45.2.2.2.2.1
          refine store_th rfl _ _ rfl (w44.heap.size) rfl (th0) (o) rfl M45.1 (one_th _) ?_
          intro w46 hW46
          have hB46 : Below w.heap.size w w46 := by rw [hW46]; exact below_setCells (B := w.heap.size) hB45 (b := w44.heap.size) (by have := hB45.size; omega) 0 _
          have hw46 : Laid w46 := hw0.below hB46
          have M46 : Mem w46 [(w44.heap.size, .cells (th (o)) 39), (w41.heap.size, .cells (th (h)) 39), (w.heap.size + 1 + 1, .cells #[.string nS, .string nI] 24), (w.heap.size + 1, .cells #[.string jS, .string jI] 24), (w.heap.size, .cells (th (u)) 39)] := by rw [hW46]; exact ⟨set_th M45.1 _, (setCells_other _ 0 _ _ (by omega)).trans M45.2.1, (setCells_other _ 0 _ _ (by omega)).trans M45.2.2.1, (setCells_other _ 0 _ _ (by omega)).trans M45.2.2.2.1, (setCells_other _ 0 _ _ (by omega)).trans M45.2.2.2.2.1, trivial⟩
          have hX3 := Lib.hid (below_setCells hX2.out (b := w44.heap.size) (by omega) 0 (th (o)).toList)
          rw [← hW46] at hX3
          clear z45_0 z45_1 c45_2_0 c45_2_1 z45_2 c45_3_0 c45_3_1 z45_3 z45_4
          clear hW46
          have z46_0 := Mem.lt M46.1
          have z46_1 := Mem.lt M46.2.1
          have c46_2_0 := Mem.cell (v := .string nS) M46.2.2.1 0 rfl
          have c46_2_1 := Mem.cell (v := .string nI) M46.2.2.1 1 rfl
          have z46_2 := Mem.lt M46.2.2.1
          have c46_3_0 := Mem.cell (v := .string jS) M46.2.2.2.1 0 rfl
          have c46_3_1 := Mem.cell (v := .string jI) M46.2.2.2.1 1 rfl
          have z46_3 := Mem.lt M46.2.2.2.1
          have z46_4 := Mem.lt M46.2.2.2.2.1
          clear hX2
          have hX2 := hX3
          clear hX3 zX
          go_upto_region 19 with (fail)
          refine wp_region_lit ?_
          refine load_th rfl _ rfl (w.heap.size) rfl (u) M46.2.2.2.2.1 ?_
          go_wp2_with fail
          refine Calls.named ?_
          intro W47 hW47
          have hB47_ : Below w.heap.size w W47 := by rw [hW47]; exact hB46
          have hw47_ : Laid W47 := by rw [hW47]; exact hw46
          have M47_ := M46
          rw [← hW47] at M47_
          have hS47 : Below w46.heap.size w46 W47 := by rw [hW47]; exact (Below.refl _ _)
          have hX2_ := hid_then hX2 hS47
          clear hS47 hX2
          clear hW47
          have ZZ47_0 := Lib.hid (Mem.lt M47_.1)
          have ZZ47_1 := Lib.hid (Mem.lt M47_.2.1)
          have ZZ47_2 := Lib.hid (Mem.lt M47_.2.2.1)
          have ZZ47_3 := Lib.hid (Mem.lt M47_.2.2.2.1)
          have ZZ47_4 := Lib.hid (Mem.lt M47_.2.2.2.2.1)
          clear z46_0 z46_1 c46_2_0 c46_2_1 z46_2 c46_3_0 c46_3_1 z46_3 z46_4
          refine (F3.out _ (HAT.out.below hX2_.out)).mono ?_
          rintro e w47 ⟨rfl, hb47⟩
          have hX2 := hid_then hX2_ hb47
          clear hX2_
          have hB47 := below_then hB47_ hb47
          have hw47 := hw47_.below hb47
          have M47 := M47_.below hb47
          clear M47_ hB47_ hb47 hw47_
          have z47_0 := Mem.lt M47.1
          have z47_1 := Mem.lt M47.2.1
          have c47_2_0 := Mem.cell (v := .string nS) M47.2.2.1 0 rfl
          have c47_2_1 := Mem.cell (v := .string nI) M47.2.2.1 1 rfl
          have z47_2 := Mem.lt M47.2.2.1
          have c47_3_0 := Mem.cell (v := .string jS) M47.2.2.2.1 0 rfl
          have c47_3_1 := Mem.cell (v := .string jI) M47.2.2.2.1 1 rfl
          have z47_3 := Mem.lt M47.2.2.2.1
          have z47_4 := Mem.lt M47.2.2.2.2.1
          simp only
          iterate 13 go_step
          have zX := hX2.out.size
          have oo47_0 : w44.heap.size < w47.heap.size := Mem.lt M47.1
          have oo47_1 : w41.heap.size < w47.heap.size := Mem.lt M47.2.1
          have oo47_2 : w.heap.size + 1 + 1 < w47.heap.size := Mem.lt M47.2.2.1
          have oo47_3 : w.heap.size + 1 < w47.heap.size := Mem.lt M47.2.2.2.1
          have oo47_4 : w.heap.size < w47.heap.size := Mem.lt M47.2.2.2.2.1
          refine wpl_named ?_
          intro w48 hW48
          have hB48 : Below w.heap.size w w48 := by rw [hW48]; exact (below_al hB47 _)
          have hw48 : Laid w48 := by rw [hW48]; exact (hw47.alloc _)
          have M48 : Mem w48 [(w47.heap.size, .cells (th (th0)) 39), (w44.heap.size, .cells (th (o)) 39), (w41.heap.size, .cells (th (h)) 39), (w.heap.size + 1 + 1, .cells #[.string nS, .string nI] 24), (w.heap.size + 1, .cells #[.string jS, .string jI] 24), (w.heap.size, .cells (th (u)) 39)] := by rw [hW48]; exact (M47).new' (w47.heap.size) (by rfl) (.cells (th (th0)) 39)
          have hS48 : Below w47.heap.size w47 w48 := by rw [hW48]; exact (below_al (Below.refl _ _) _)
          replace hX2 := hid_then hX2 hS48
          clear hS48
          clear z47_0 z47_1 c47_2_0 c47_2_1 z47_2 c47_3_0 c47_3_1 z47_3 z47_4
          clear hW48
          have z48_0 := Mem.lt M48.1
          have z48_1 := Mem.lt M48.2.1
          have z48_2 := Mem.lt M48.2.2.1
          have c48_3_0 := Mem.cell (v := .string nS) M48.2.2.2.1 0 rfl
          have c48_3_1 := Mem.cell (v := .string nI) M48.2.2.2.1 1 rfl
          have z48_3 := Mem.lt M48.2.2.2.1
          have c48_4_0 := Mem.cell (v := .string jS) M48.2.2.2.2.1 0 rfl
          have c48_4_1 := Mem.cell (v := .string jI) M48.2.2.2.2.1 1 rfl
          have z48_4 := Mem.lt M48.2.2.2.2.1
          have z48_5 := Mem.lt M48.2.2.2.2.2.1
          refine store_th rfl _ _ rfl (w47.heap.size) rfl (th0) (o) rfl M48.1 (one_th _) ?_
          intro w49 hW49
          have hB49 : Below w.heap.size w w49 := by rw [hW49]; exact below_setCells (B := w.heap.size) hB48 (b := w47.heap.size) (by have := hB48.size; omega) 0 _
          have hw49 : Laid w49 := hw0.below hB49
          have M49 : Mem w49 [(w47.heap.size, .cells (th (o)) 39), (w44.heap.size, .cells (th (o)) 39), (w41.heap.size, .cells (th (h)) 39), (w.heap.size + 1 + 1, .cells #[.string nS, .string nI] 24), (w.heap.size + 1, .cells #[.string jS, .string jI] 24), (w.heap.size, .cells (th (u)) 39)] := by rw [hW49]; exact ⟨set_th M48.1 _, (setCells_other _ 0 _ _ (by omega)).trans M48.2.1, (setCells_other _ 0 _ _ (by omega)).trans M48.2.2.1, (setCells_other _ 0 _ _ (by omega)).trans M48.2.2.2.1, (setCells_other _ 0 _ _ (by omega)).trans M48.2.2.2.2.1, (setCells_other _ 0 _ _ (by omega)).trans M48.2.2.2.2.2.1, trivial⟩
          have hX3 := Lib.hid (below_setCells hX2.out (b := w47.heap.size) (by omega) 0 (th (o)).toList)
          rw [← hW49] at hX3
          clear z48_0 z48_1 z48_2 c48_3_0 c48_3_1 z48_3 c48_4_0 c48_4_1 z48_4 z48_5
          clear hW49
          have z49_0 := Mem.lt M49.1
          have z49_1 := Mem.lt M49.2.1
          have z49_2 := Mem.lt M49.2.2.1
          have c49_3_0 := Mem.cell (v := .string nS) M49.2.2.2.1 0 rfl
          have c49_3_1 := Mem.cell (v := .string nI) M49.2.2.2.1 1 rfl
          have z49_3 := Mem.lt M49.2.2.2.1
          have c49_4_0 := Mem.cell (v := .string jS) M49.2.2.2.2.1 0 rfl
          have c49_4_1 := Mem.cell (v := .string jI) M49.2.2.2.2.1 1 rfl
          have z49_4 := Mem.lt M49.2.2.2.2.1
          have z49_5 := Mem.lt M49.2.2.2.2.2.1
          clear hX2
          have hX2 := hX3
          clear hX3 zX
          go_upto_region 20 with (fail)
          go_cut [17, 18] (fun s17 s18 wx => ∃ b, s17 = .pointer (some ⟨b, 0, none⟩) ∧ s18 = .bool true ∧ Below w49.heap.size w49 wx ∧ wx.heap[b]? = some (.cells (th u) 39) ∧ w49.heap.size ≤ b)
          case first =>
            have hV := Lib.hid (Below.refl w49.heap.size w49)
            clear z49_0 z49_1 z49_2 c49_3_0 c49_3_1 z49_3 c49_4_0 c49_4_1 z49_4 z49_5
            refine wp_region_held (S := fun w' => Mem w' [(w47.heap.size, .cells (th (o)) 39), (w44.heap.size, .cells (th (o)) 39), (w41.heap.size, .cells (th (h)) 39), (w.heap.size + 1 + 1, .cells #[.string nS, .string nI] 24), (w.heap.size + 1, .cells #[.string jS, .string jI] 24), (w.heap.size, .cells (th (u)) 39)]) (by kernel_rfl) ?_
            change wpAnyH _ _ _ _ _ 9 (Array.replicate 9 false) _ w49.drew
            refine anyH_named ?_
            intro w50 hW50
            have hB50 : Below w.heap.size w w50 := by rw [hW50]; exact below_dr hB49
            have hw50 : Laid w50 := by rw [hW50]; exact hw49.below (below_dr (Below.refl _ _))
            have M50 : Mem w50 [(w47.heap.size, .cells (th (o)) 39), (w44.heap.size, .cells (th (o)) 39), (w41.heap.size, .cells (th (h)) 39), (w.heap.size + 1 + 1, .cells #[.string nS, .string nI] 24), (w.heap.size + 1, .cells #[.string jS, .string jI] 24), (w.heap.size, .cells (th (u)) 39)] := by rw [hW50]; exact Mem.drew M49
            have zz50 : w49.heap.size ≤ w50.heap.size := by rw [hW50]; exact Nat.le_refl _
            replace hX2 := hid_then hX2 (below_dr (Below.refl _ w49))
            rw [← hW50] at hX2
            replace hV := hid_then hV (below_dr (Below.refl _ w49))
            rw [← hW50] at hV
            clear hW50
            have zh50_0 := Mem.lt M50.1
            have zh50_1 := Mem.lt M50.2.1
            have zh50_2 := Mem.lt M50.2.2.1
            have zh50_3 := Mem.lt M50.2.2.2.1
            have zh50_4 := Mem.lt M50.2.2.2.2.1
            have zh50_5 := Mem.lt M50.2.2.2.2.2.1
            refine wpAnyH_take (i := 0) (v := .agg (th (u))) rfl (by decide +kernel) (by decide +kernel) (by decide +kernel) (fun _ _ _ h => h) (yieldsIf_load_mid (by rfl) 39 _ rfl (w.heap.size) 0 (by rfl) (th (u)).toList _ (fun w hSw => range_block hSw.2.2.2.2.2.1) Tryz.underlying39 rfl info_th) M50 ?_
            try simp only [Act.put, List.getElem_toArray, List.getElem_cons_zero, List.setIfInBounds_toArray, List.set_cons_zero, List.set_cons_succ]
            refine wpAnyH_ready (rs := [1, 6]) (by decide +kernel) (by simp) (AllReadyH.cons rfl ?_ (AllReadyH.cons rfl ?_ AllReadyH.nil))
            · skip
              intro K hK
              rw [if_pos (by rfl)]
              go_simp
              go_at_call 8
              refine (high_any _).mono ?_
              rintro e w51 ⟨rfl, hb51⟩
              have hB51 := below_then hB50 hb51
              have hw51 := hw50.below hb51
              have M51 := M50.below hb51
              replace hX2 := hid_then hX2 hb51
              replace hV := hid_then hV hb51
              have zz51 := hb51.size
              clear hb51
              refine hK.out _ _ M51 (fun _ => ?_)
              clear hK K
              try simp only [Act.put, List.getElem_toArray, List.getElem_cons_succ, List.getElem_cons_zero, List.setIfInBounds_toArray, List.set_cons_zero, List.set_cons_succ]
              refine wpAnyH_ready (rs := [2, 6]) (by decide +kernel) (by simp) (AllReadyH.cons rfl ?_ (AllReadyH.cons rfl ?_ AllReadyH.nil))
              · skip
                intro K hK
                rw [if_pos (by rfl)]
                go_simp
                go_at_call 17
                refine (F7.out _ (HAT.out.below hX2.out)).mono ?_
                rintro e w52 ⟨rfl, hb52⟩
                have hB52 := below_then hB51 hb52
                have hw52 := hw51.below hb52
                have M52 := M51.below hb52
                replace hX2 := hid_then hX2 hb52
                replace hV := hid_then hV hb52
                have zz52 := hb52.size
                clear hb52
                refine hK.out _ _ M52 (fun _ => ?_)
                clear hK K
                try simp only [Act.put, List.getElem_toArray, List.getElem_cons_succ, List.getElem_cons_zero, List.setIfInBounds_toArray, List.set_cons_zero, List.set_cons_succ]
                refine wpAnyH_take (i := 3) (v := ?_) rfl (by decide +kernel) (by decide +kernel) (by decide +kernel) (fun _ _ _ h => h) (Or.inl ⟨by rfl, ?_⟩) M52 ?_
                rotate_left
                · intro w hSw
                  clear hSw
                  go_simp; try (with_reducible rfl)
                try simp only [Act.put, List.getElem_toArray, List.getElem_cons_succ, List.getElem_cons_zero, List.setIfInBounds_toArray, List.set_cons_zero, List.set_cons_succ]
                refine wpAnyH_take (i := 4) (v := ?_) rfl (by decide +kernel) (by decide +kernel) (by decide +kernel) (fun _ _ _ h => h) (Or.inl ⟨by rfl, ?_⟩) M52 ?_
                rotate_left
                · intro w hSw
                  clear hSw
                  go_simp; try (with_reducible rfl)
                try simp only [Act.put, List.getElem_toArray, List.getElem_cons_succ, List.getElem_cons_zero, List.setIfInBounds_toArray, List.set_cons_zero, List.set_cons_succ]
                refine wpAnyH_take (i := 5) (v := ?_) rfl (by decide +kernel) (by decide +kernel) (by decide +kernel) (fun _ _ _ h => h) (Or.inl ⟨by rfl, ?_⟩) M52 ?_
                rotate_left
                · intro w hSw
                  clear hSw
                  go_simp; try (with_reducible rfl)
                try simp only [Act.put, List.getElem_toArray, List.getElem_cons_succ, List.getElem_cons_zero, List.setIfInBounds_toArray, List.set_cons_zero, List.set_cons_succ]
                refine wpAnyH_ready (rs := [6]) (by decide +kernel) (by simp) (AllReadyH.cons rfl ?_ AllReadyH.nil)
                intro K hK
                rw [if_pos (by rfl)]
                go_simp
                have N53 : Mem (w52.alloc (.cells (th (th0)) 39)) [(w52.heap.size, .cells (th (th0)) 39), (w47.heap.size, .cells (th (o)) 39), (w44.heap.size, .cells (th (o)) 39), (w41.heap.size, .cells (th (h)) 39), (w.heap.size + 1 + 1, .cells #[.string nS, .string nI] 24), (w.heap.size + 1, .cells #[.string jS, .string jI] 24), (w.heap.size, .cells (th (u)) 39)] := (M52).new' (w52.heap.size) (by rfl) (.cells (th (th0)) 39)
                refine hK.out _ _ ⟨N53.2.1, N53.2.2.1, N53.2.2.2.1, N53.2.2.2.2.1, N53.2.2.2.2.2.1, N53.2.2.2.2.2.2.1, trivial⟩ (fun _ => ?_)
                clear hK K
                try simp only [Act.put, List.getElem_toArray, List.getElem_cons_succ, List.getElem_cons_zero, List.setIfInBounds_toArray, List.set_cons_zero, List.set_cons_succ]
                refine anyH_named ?_
                intro w53 hW53
                have hB53 : Below w.heap.size w w53 := by rw [hW53]; exact below_al hB52 _
                have hw53 : Laid w53 := by rw [hW53]; exact hw52.alloc _
                have M53 : Mem w53 [(w52.heap.size, .cells (th (th0)) 39), (w47.heap.size, .cells (th (o)) 39), (w44.heap.size, .cells (th (o)) 39), (w41.heap.size, .cells (th (h)) 39), (w.heap.size + 1 + 1, .cells #[.string nS, .string nI] 24), (w.heap.size + 1, .cells #[.string jS, .string jI] 24), (w.heap.size, .cells (th (u)) 39)] := by rw [hW53]; exact N53
                replace hX2 := hid_then hX2 (below_al (Below.refl _ w52) (.cells (th (th0)) 39))
                rw [show w52.alloc (.cells (th (th0)) 39) = w53 from hW53.symm] at hX2
                replace hV := hid_then hV (below_al (Below.refl _ w52) (.cells (th (th0)) 39))
                rw [show w52.alloc (.cells (th (th0)) 39) = w53 from hW53.symm] at hV
                clear hW53 N53
                have zz53 : w52.heap.size < w53.heap.size := Mem.lt M53.1
                refine wpAnyH_ready (rs := [7]) (by decide +kernel) (by simp) (AllReadyH.cons rfl ?_ AllReadyH.nil)
                intro K hK
                rw [if_pos (by rfl)]
                refine wp_store_mid 39 _ _ rfl (w52.heap.size) 0 (th (u)) (by rfl) (by rfl) (there_block M53.1 (Nat.le_refl 20)) info_th (one_th _) ?_
                have N54 : Mem (w53.setCells (w52.heap.size) 0 (th (u)).toList) [(w52.heap.size, .cells (th (u)) 39), (w47.heap.size, .cells (th (o)) 39), (w44.heap.size, .cells (th (o)) 39), (w41.heap.size, .cells (th (h)) 39), (w.heap.size + 1 + 1, .cells #[.string nS, .string nI] 24), (w.heap.size + 1, .cells #[.string jS, .string jI] 24), (w.heap.size, .cells (th (u)) 39)] := ⟨set_th M53.1 _, (setCells_other _ 0 _ _ (by omega)).trans M53.2.1, (setCells_other _ 0 _ _ (by omega)).trans M53.2.2.1, (setCells_other _ 0 _ _ (by omega)).trans M53.2.2.2.1, (setCells_other _ 0 _ _ (by omega)).trans M53.2.2.2.2.1, (setCells_other _ 0 _ _ (by omega)).trans M53.2.2.2.2.2.1, (setCells_other _ 0 _ _ (by omega)).trans M53.2.2.2.2.2.2.1, trivial⟩
                refine hK.out _ _ ⟨N54.2.1, N54.2.2.1, N54.2.2.2.1, N54.2.2.2.2.1, N54.2.2.2.2.2.1, N54.2.2.2.2.2.2.1, trivial⟩ (fun _ => ?_)
                clear hK K
                try simp only [Act.put, List.getElem_toArray, List.getElem_cons_succ, List.getElem_cons_zero]
                refine anyH_named ?_
                intro w54 hW54
                have hB54 : Below w.heap.size w w54 := by rw [hW54]; exact below_setCells (B := w.heap.size) hB53 (b := w52.heap.size) (by have := hB53.size; omega) 0 _
                have hw54 : Laid w54 := hw0.below hB54
                have M54 : Mem w54 [(w52.heap.size, .cells (th (u)) 39), (w47.heap.size, .cells (th (o)) 39), (w44.heap.size, .cells (th (o)) 39), (w41.heap.size, .cells (th (h)) 39), (w.heap.size + 1 + 1, .cells #[.string nS, .string nI] 24), (w.heap.size + 1, .cells #[.string jS, .string jI] 24), (w.heap.size, .cells (th (u)) 39)] := by rw [hW54]; exact N54
                have hY := below_setCells hV.out (b := w52.heap.size) (by omega) 0 (th (u)).toList
                rw [show w53.setCells (w52.heap.size) 0 (th (u)).toList = w54 from hW54.symm] at hY
                clear hW54 N54
                refine wpAnyH_take (i := 8) (v := ?_) rfl (by decide +kernel) (by decide +kernel) (by decide +kernel) (fun _ _ _ h => h) (Or.inl ⟨by rfl, ?_⟩) ⟨M54.2.1, M54.2.2.1, M54.2.2.2.1, M54.2.2.2.2.1, M54.2.2.2.2.2.1, M54.2.2.2.2.2.2.1, trivial⟩ ?_
                rotate_left
                · intro w hSw
                  clear hSw
                  go_simp; try (with_reducible rfl)
                try simp only [Act.put, List.getElem_toArray, List.getElem_cons_succ, List.getElem_cons_zero, List.setIfInBounds_toArray, List.set_cons_zero, List.set_cons_succ]
                refine wpAnyH_done (by kernel_rfl) ?_ _
                have z54_0 := Mem.lt M54.1
                have z54_1 := Mem.lt M54.2.1
                have z54_2 := Mem.lt M54.2.2.1
                have z54_3 := Mem.lt M54.2.2.2.1
                have c54_4_0 := Mem.cell (v := .string nS) M54.2.2.2.2.1 0 rfl
                have c54_4_1 := Mem.cell (v := .string nI) M54.2.2.2.2.1 1 rfl
                have z54_4 := Mem.lt M54.2.2.2.2.1
                have c54_5_0 := Mem.cell (v := .string jS) M54.2.2.2.2.2.1 0 rfl
                have c54_5_1 := Mem.cell (v := .string jI) M54.2.2.2.2.2.1 1 rfl
                have z54_5 := Mem.lt M54.2.2.2.2.2.1
                have z54_6 := Mem.lt M54.2.2.2.2.2.2.1
                go_wp2_with fail
                go_meet
                exact ⟨_, rfl, rfl, hY, M54.1, by omega⟩
              · skip
                intro K hK
                rw [if_pos (by rfl)]
                go_simp
                have N52 : Mem (w51.alloc (.cells (th (th0)) 39)) [(w51.heap.size, .cells (th (th0)) 39), (w47.heap.size, .cells (th (o)) 39), (w44.heap.size, .cells (th (o)) 39), (w41.heap.size, .cells (th (h)) 39), (w.heap.size + 1 + 1, .cells #[.string nS, .string nI] 24), (w.heap.size + 1, .cells #[.string jS, .string jI] 24), (w.heap.size, .cells (th (u)) 39)] := (M51).new' (w51.heap.size) (by rfl) (.cells (th (th0)) 39)
                refine hK.out _ _ ⟨N52.2.1, N52.2.2.1, N52.2.2.2.1, N52.2.2.2.2.1, N52.2.2.2.2.2.1, N52.2.2.2.2.2.2.1, trivial⟩ (fun _ => ?_)
                clear hK K
                try simp only [Act.put, List.getElem_toArray, List.getElem_cons_succ, List.getElem_cons_zero, List.setIfInBounds_toArray, List.set_cons_zero, List.set_cons_succ]
                refine anyH_named ?_
                intro w52 hW52
                have hB52 : Below w.heap.size w w52 := by rw [hW52]; exact below_al hB51 _
                have hw52 : Laid w52 := by rw [hW52]; exact hw51.alloc _
                have M52 : Mem w52 [(w51.heap.size, .cells (th (th0)) 39), (w47.heap.size, .cells (th (o)) 39), (w44.heap.size, .cells (th (o)) 39), (w41.heap.size, .cells (th (h)) 39), (w.heap.size + 1 + 1, .cells #[.string nS, .string nI] 24), (w.heap.size + 1, .cells #[.string jS, .string jI] 24), (w.heap.size, .cells (th (u)) 39)] := by rw [hW52]; exact N52
                replace hX2 := hid_then hX2 (below_al (Below.refl _ w51) (.cells (th (th0)) 39))
                rw [show w51.alloc (.cells (th (th0)) 39) = w52 from hW52.symm] at hX2
                replace hV := hid_then hV (below_al (Below.refl _ w51) (.cells (th (th0)) 39))
                rw [show w51.alloc (.cells (th (th0)) 39) = w52 from hW52.symm] at hV
                clear hW52 N52
                have zz52 : w51.heap.size < w52.heap.size := Mem.lt M52.1
                refine wpAnyH_ready (rs := [2]) (by decide +kernel) (by simp) (AllReadyH.cons rfl ?_ AllReadyH.nil)
                intro K hK
                rw [if_pos (by rfl)]
                go_simp
                go_at_call 17
                refine (F7.out _ (HAT.out.below hX2.out)).mono ?_
                rintro e w53 ⟨rfl, hb53⟩
                have hB53 := below_then hB52 hb53
                have hw53 := hw52.below hb53
                have M53 := M52.below hb53
                replace hX2 := hid_then hX2 hb53
                replace hV := hid_then hV hb53
                have zz53 := hb53.size
                clear hb53
                refine hK.out _ _ ⟨M53.2.1, M53.2.2.1, M53.2.2.2.1, M53.2.2.2.2.1, M53.2.2.2.2.2.1, M53.2.2.2.2.2.2.1, trivial⟩ (fun _ => ?_)
                clear hK K
                try simp only [Act.put, List.getElem_toArray, List.getElem_cons_succ, List.getElem_cons_zero, List.setIfInBounds_toArray, List.set_cons_zero, List.set_cons_succ]
                refine wpAnyH_take (i := 3) (v := ?_) rfl (by decide +kernel) (by decide +kernel) (by decide +kernel) (fun _ _ _ h => h) (Or.inl ⟨by rfl, ?_⟩) ⟨M53.2.1, M53.2.2.1, M53.2.2.2.1, M53.2.2.2.2.1, M53.2.2.2.2.2.1, M53.2.2.2.2.2.2.1, trivial⟩ ?_
                rotate_left
                · intro w hSw
                  clear hSw
                  go_simp; try (with_reducible rfl)
                try simp only [Act.put, List.getElem_toArray, List.getElem_cons_succ, List.getElem_cons_zero, List.setIfInBounds_toArray, List.set_cons_zero, List.set_cons_succ]
                refine wpAnyH_take (i := 4) (v := ?_) rfl (by decide +kernel) (by decide +kernel) (by decide +kernel) (fun _ _ _ h => h) (Or.inl ⟨by rfl, ?_⟩) ⟨M53.2.1, M53.2.2.1, M53.2.2.2.1, M53.2.2.2.2.1, M53.2.2.2.2.2.1, M53.2.2.2.2.2.2.1, trivial⟩ ?_
                rotate_left
                · intro w hSw
                  clear hSw
                  go_simp; try (with_reducible rfl)
                try simp only [Act.put, List.getElem_toArray, List.getElem_cons_succ, List.getElem_cons_zero, List.setIfInBounds_toArray, List.set_cons_zero, List.set_cons_succ]
                refine wpAnyH_take (i := 5) (v := ?_) rfl (by decide +kernel) (by decide +kernel) (by decide +kernel) (fun _ _ _ h => h) (Or.inl ⟨by rfl, ?_⟩) ⟨M53.2.1, M53.2.2.1, M53.2.2.2.1, M53.2.2.2.2.1, M53.2.2.2.2.2.1, M53.2.2.2.2.2.2.1, trivial⟩ ?_
                rotate_left
                · intro w hSw
                  clear hSw
                  go_simp; try (with_reducible rfl)
                try simp only [Act.put, List.getElem_toArray, List.getElem_cons_succ, List.getElem_cons_zero, List.setIfInBounds_toArray, List.set_cons_zero, List.set_cons_succ]
                refine wpAnyH_ready (rs := [7]) (by decide +kernel) (by simp) (AllReadyH.cons rfl ?_ AllReadyH.nil)
                intro K hK
                rw [if_pos (by rfl)]
                refine wp_store_mid 39 _ _ rfl (w51.heap.size) 0 (th (u)) (by rfl) (by rfl) (there_block M53.1 (Nat.le_refl 20)) info_th (one_th _) ?_
                have N54 : Mem (w53.setCells (w51.heap.size) 0 (th (u)).toList) [(w51.heap.size, .cells (th (u)) 39), (w47.heap.size, .cells (th (o)) 39), (w44.heap.size, .cells (th (o)) 39), (w41.heap.size, .cells (th (h)) 39), (w.heap.size + 1 + 1, .cells #[.string nS, .string nI] 24), (w.heap.size + 1, .cells #[.string jS, .string jI] 24), (w.heap.size, .cells (th (u)) 39)] := ⟨set_th M53.1 _, (setCells_other _ 0 _ _ (by omega)).trans M53.2.1, (setCells_other _ 0 _ _ (by omega)).trans M53.2.2.1, (setCells_other _ 0 _ _ (by omega)).trans M53.2.2.2.1, (setCells_other _ 0 _ _ (by omega)).trans M53.2.2.2.2.1, (setCells_other _ 0 _ _ (by omega)).trans M53.2.2.2.2.2.1, (setCells_other _ 0 _ _ (by omega)).trans M53.2.2.2.2.2.2.1, trivial⟩
                refine hK.out _ _ ⟨N54.2.1, N54.2.2.1, N54.2.2.2.1, N54.2.2.2.2.1, N54.2.2.2.2.2.1, N54.2.2.2.2.2.2.1, trivial⟩ (fun _ => ?_)
                clear hK K
                try simp only [Act.put, List.getElem_toArray, List.getElem_cons_succ, List.getElem_cons_zero]
                refine anyH_named ?_
                intro w54 hW54
                have hB54 : Below w.heap.size w w54 := by rw [hW54]; exact below_setCells (B := w.heap.size) hB53 (b := w51.heap.size) (by have := hB53.size; omega) 0 _
                have hw54 : Laid w54 := hw0.below hB54
                have M54 : Mem w54 [(w51.heap.size, .cells (th (u)) 39), (w47.heap.size, .cells (th (o)) 39), (w44.heap.size, .cells (th (o)) 39), (w41.heap.size, .cells (th (h)) 39), (w.heap.size + 1 + 1, .cells #[.string nS, .string nI] 24), (w.heap.size + 1, .cells #[.string jS, .string jI] 24), (w.heap.size, .cells (th (u)) 39)] := by rw [hW54]; exact N54
                have hY := below_setCells hV.out (b := w51.heap.size) (by omega) 0 (th (u)).toList
                rw [show w53.setCells (w51.heap.size) 0 (th (u)).toList = w54 from hW54.symm] at hY
                clear hW54 N54
                refine wpAnyH_take (i := 8) (v := ?_) rfl (by decide +kernel) (by decide +kernel) (by decide +kernel) (fun _ _ _ h => h) (Or.inl ⟨by rfl, ?_⟩) ⟨M54.2.1, M54.2.2.1, M54.2.2.2.1, M54.2.2.2.2.1, M54.2.2.2.2.2.1, M54.2.2.2.2.2.2.1, trivial⟩ ?_
                rotate_left
                · intro w hSw
                  clear hSw
                  go_simp; try (with_reducible rfl)
                try simp only [Act.put, List.getElem_toArray, List.getElem_cons_succ, List.getElem_cons_zero, List.setIfInBounds_toArray, List.set_cons_zero, List.set_cons_succ]
                refine wpAnyH_done (by kernel_rfl) ?_ _
                have z54_0 := Mem.lt M54.1
                have z54_1 := Mem.lt M54.2.1
                have z54_2 := Mem.lt M54.2.2.1
                have z54_3 := Mem.lt M54.2.2.2.1
                have c54_4_0 := Mem.cell (v := .string nS) M54.2.2.2.2.1 0 rfl
                have c54_4_1 := Mem.cell (v := .string nI) M54.2.2.2.2.1 1 rfl
                have z54_4 := Mem.lt M54.2.2.2.2.1
                have c54_5_0 := Mem.cell (v := .string jS) M54.2.2.2.2.2.1 0 rfl
                have c54_5_1 := Mem.cell (v := .string jI) M54.2.2.2.2.2.1 1 rfl
                have z54_5 := Mem.lt M54.2.2.2.2.2.1
                have z54_6 := Mem.lt M54.2.2.2.2.2.2.1
                go_wp2_with fail
                go_meet
                exact ⟨_, rfl, rfl, hY, M54.1, by omega⟩
            · skip
              intro K hK
              rw [if_pos (by rfl)]
              go_simp
              have N51 : Mem (w50.alloc (.cells (th (th0)) 39)) [(w50.heap.size, .cells (th (th0)) 39), (w47.heap.size, .cells (th (o)) 39), (w44.heap.size, .cells (th (o)) 39), (w41.heap.size, .cells (th (h)) 39), (w.heap.size + 1 + 1, .cells #[.string nS, .string nI] 24), (w.heap.size + 1, .cells #[.string jS, .string jI] 24), (w.heap.size, .cells (th (u)) 39)] := (M50).new' (w50.heap.size) (by rfl) (.cells (th (th0)) 39)
              refine hK.out _ _ ⟨N51.2.1, N51.2.2.1, N51.2.2.2.1, N51.2.2.2.2.1, N51.2.2.2.2.2.1, N51.2.2.2.2.2.2.1, trivial⟩ (fun _ => ?_)
              clear hK K
              try simp only [Act.put, List.getElem_toArray, List.getElem_cons_succ, List.getElem_cons_zero, List.setIfInBounds_toArray, List.set_cons_zero, List.set_cons_succ]
              refine anyH_named ?_
              intro w51 hW51
              have hB51 : Below w.heap.size w w51 := by rw [hW51]; exact below_al hB50 _
              have hw51 : Laid w51 := by rw [hW51]; exact hw50.alloc _
              have M51 : Mem w51 [(w50.heap.size, .cells (th (th0)) 39), (w47.heap.size, .cells (th (o)) 39), (w44.heap.size, .cells (th (o)) 39), (w41.heap.size, .cells (th (h)) 39), (w.heap.size + 1 + 1, .cells #[.string nS, .string nI] 24), (w.heap.size + 1, .cells #[.string jS, .string jI] 24), (w.heap.size, .cells (th (u)) 39)] := by rw [hW51]; exact N51
              replace hX2 := hid_then hX2 (below_al (Below.refl _ w50) (.cells (th (th0)) 39))
              rw [show w50.alloc (.cells (th (th0)) 39) = w51 from hW51.symm] at hX2
              replace hV := hid_then hV (below_al (Below.refl _ w50) (.cells (th (th0)) 39))
              rw [show w50.alloc (.cells (th (th0)) 39) = w51 from hW51.symm] at hV
              clear hW51 N51
              have zz51 : w50.heap.size < w51.heap.size := Mem.lt M51.1
              refine wpAnyH_ready (rs := [1]) (by decide +kernel) (by simp) (AllReadyH.cons rfl ?_ AllReadyH.nil)
              intro K hK
              rw [if_pos (by rfl)]
              go_simp
              go_at_call 8
              refine (high_any _).mono ?_
              rintro e w52 ⟨rfl, hb52⟩
              have hB52 := below_then hB51 hb52
              have hw52 := hw51.below hb52
              have M52 := M51.below hb52
              replace hX2 := hid_then hX2 hb52
              replace hV := hid_then hV hb52
              have zz52 := hb52.size
              clear hb52
              refine hK.out _ _ ⟨M52.2.1, M52.2.2.1, M52.2.2.2.1, M52.2.2.2.2.1, M52.2.2.2.2.2.1, M52.2.2.2.2.2.2.1, trivial⟩ (fun _ => ?_)
              clear hK K
              try simp only [Act.put, List.getElem_toArray, List.getElem_cons_succ, List.getElem_cons_zero, List.setIfInBounds_toArray, List.set_cons_zero, List.set_cons_succ]
              refine wpAnyH_ready (rs := [2]) (by decide +kernel) (by simp) (AllReadyH.cons rfl ?_ AllReadyH.nil)
              intro K hK
              rw [if_pos (by rfl)]
              go_simp
              go_at_call 17
              refine (F7.out _ (HAT.out.below hX2.out)).mono ?_
              rintro e w53 ⟨rfl, hb53⟩
              have hB53 := below_then hB52 hb53
              have hw53 := hw52.below hb53
              have M53 := M52.below hb53
              replace hX2 := hid_then hX2 hb53
              replace hV := hid_then hV hb53
              have zz53 := hb53.size
              clear hb53
              refine hK.out _ _ ⟨M53.2.1, M53.2.2.1, M53.2.2.2.1, M53.2.2.2.2.1, M53.2.2.2.2.2.1, M53.2.2.2.2.2.2.1, trivial⟩ (fun _ => ?_)
              clear hK K
              try simp only [Act.put, List.getElem_toArray, List.getElem_cons_succ, List.getElem_cons_zero, List.setIfInBounds_toArray, List.set_cons_zero, List.set_cons_succ]
              refine wpAnyH_take (i := 3) (v := ?_) rfl (by decide +kernel) (by decide +kernel) (by decide +kernel) (fun _ _ _ h => h) (Or.inl ⟨by rfl, ?_⟩) ⟨M53.2.1, M53.2.2.1, M53.2.2.2.1, M53.2.2.2.2.1, M53.2.2.2.2.2.1, M53.2.2.2.2.2.2.1, trivial⟩ ?_
              rotate_left
              · intro w hSw
                clear hSw
                go_simp; try (with_reducible rfl)
              try simp only [Act.put, List.getElem_toArray, List.getElem_cons_succ, List.getElem_cons_zero, List.setIfInBounds_toArray, List.set_cons_zero, List.set_cons_succ]
              refine wpAnyH_take (i := 4) (v := ?_) rfl (by decide +kernel) (by decide +kernel) (by decide +kernel) (fun _ _ _ h => h) (Or.inl ⟨by rfl, ?_⟩) ⟨M53.2.1, M53.2.2.1, M53.2.2.2.1, M53.2.2.2.2.1, M53.2.2.2.2.2.1, M53.2.2.2.2.2.2.1, trivial⟩ ?_
              rotate_left
              · intro w hSw
                clear hSw
                go_simp; try (with_reducible rfl)
              try simp only [Act.put, List.getElem_toArray, List.getElem_cons_succ, List.getElem_cons_zero, List.setIfInBounds_toArray, List.set_cons_zero, List.set_cons_succ]
              refine wpAnyH_take (i := 5) (v := ?_) rfl (by decide +kernel) (by decide +kernel) (by decide +kernel) (fun _ _ _ h => h) (Or.inl ⟨by rfl, ?_⟩) ⟨M53.2.1, M53.2.2.1, M53.2.2.2.1, M53.2.2.2.2.1, M53.2.2.2.2.2.1, M53.2.2.2.2.2.2.1, trivial⟩ ?_
              rotate_left
              · intro w hSw
                clear hSw
                go_simp; try (with_reducible rfl)
              try simp only [Act.put, List.getElem_toArray, List.getElem_cons_succ, List.getElem_cons_zero, List.setIfInBounds_toArray, List.set_cons_zero, List.set_cons_succ]
              refine wpAnyH_ready (rs := [7]) (by decide +kernel) (by simp) (AllReadyH.cons rfl ?_ AllReadyH.nil)
              intro K hK
              rw [if_pos (by rfl)]
              refine wp_store_mid 39 _ _ rfl (w50.heap.size) 0 (th (u)) (by rfl) (by rfl) (there_block M53.1 (Nat.le_refl 20)) info_th (one_th _) ?_
              have N54 : Mem (w53.setCells (w50.heap.size) 0 (th (u)).toList) [(w50.heap.size, .cells (th (u)) 39), (w47.heap.size, .cells (th (o)) 39), (w44.heap.size, .cells (th (o)) 39), (w41.heap.size, .cells (th (h)) 39), (w.heap.size + 1 + 1, .cells #[.string nS, .string nI] 24), (w.heap.size + 1, .cells #[.string jS, .string jI] 24), (w.heap.size, .cells (th (u)) 39)] := ⟨set_th M53.1 _, (setCells_other _ 0 _ _ (by omega)).trans M53.2.1, (setCells_other _ 0 _ _ (by omega)).trans M53.2.2.1, (setCells_other _ 0 _ _ (by omega)).trans M53.2.2.2.1, (setCells_other _ 0 _ _ (by omega)).trans M53.2.2.2.2.1, (setCells_other _ 0 _ _ (by omega)).trans M53.2.2.2.2.2.1, (setCells_other _ 0 _ _ (by omega)).trans M53.2.2.2.2.2.2.1, trivial⟩
              refine hK.out _ _ ⟨N54.2.1, N54.2.2.1, N54.2.2.2.1, N54.2.2.2.2.1, N54.2.2.2.2.2.1, N54.2.2.2.2.2.2.1, trivial⟩ (fun _ => ?_)
              clear hK K
              try simp only [Act.put, List.getElem_toArray, List.getElem_cons_succ, List.getElem_cons_zero]
              refine anyH_named ?_
              intro w54 hW54
              have hB54 : Below w.heap.size w w54 := by rw [hW54]; exact below_setCells (B := w.heap.size) hB53 (b := w50.heap.size) (by have := hB53.size; omega) 0 _
              have hw54 : Laid w54 := hw0.below hB54
              have M54 : Mem w54 [(w50.heap.size, .cells (th (u)) 39), (w47.heap.size, .cells (th (o)) 39), (w44.heap.size, .cells (th (o)) 39), (w41.heap.size, .cells (th (h)) 39), (w.heap.size + 1 + 1, .cells #[.string nS, .string nI] 24), (w.heap.size + 1, .cells #[.string jS, .string jI] 24), (w.heap.size, .cells (th (u)) 39)] := by rw [hW54]; exact N54
              have hY := below_setCells hV.out (b := w50.heap.size) (by omega) 0 (th (u)).toList
              rw [show w53.setCells (w50.heap.size) 0 (th (u)).toList = w54 from hW54.symm] at hY
              clear hW54 N54
              refine wpAnyH_take (i := 8) (v := ?_) rfl (by decide +kernel) (by decide +kernel) (by decide +kernel) (fun _ _ _ h => h) (Or.inl ⟨by rfl, ?_⟩) ⟨M54.2.1, M54.2.2.1, M54.2.2.2.1, M54.2.2.2.2.1, M54.2.2.2.2.2.1, M54.2.2.2.2.2.2.1, trivial⟩ ?_
              rotate_left
              · intro w hSw
                clear hSw
                go_simp; try (with_reducible rfl)
              try simp only [Act.put, List.getElem_toArray, List.getElem_cons_succ, List.getElem_cons_zero, List.setIfInBounds_toArray, List.set_cons_zero, List.set_cons_succ]
              refine wpAnyH_done (by kernel_rfl) ?_ _
              have z54_0 := Mem.lt M54.1
              have z54_1 := Mem.lt M54.2.1
              have z54_2 := Mem.lt M54.2.2.1
              have z54_3 := Mem.lt M54.2.2.2.1
              have c54_4_0 := Mem.cell (v := .string nS) M54.2.2.2.2.1 0 rfl
              have c54_4_1 := Mem.cell (v := .string nI) M54.2.2.2.2.1 1 rfl
              have z54_4 := Mem.lt M54.2.2.2.2.1
              have c54_5_0 := Mem.cell (v := .string jS) M54.2.2.2.2.2.1 0 rfl
              have c54_5_1 := Mem.cell (v := .string jI) M54.2.2.2.2.2.1 1 rfl
              have z54_5 := Mem.lt M54.2.2.2.2.2.1
              have z54_6 := Mem.lt M54.2.2.2.2.2.2.1
              go_wp2_with fail
              go_meet
              exact ⟨_, rfl, rfl, hY, M54.1, by omega⟩
          case rest =>
            obtain ⟨bs, rfl, rfl, hbS, hbs, q1⟩ := hcut
            obtain ⟨w50, rfl⟩ : ∃ x, x = wc := ⟨_, rfl⟩
            have hB50 := below_then hB49 hbS
            have hw50 := hw49.below hbS
            have M50 : Mem w50 [(bs, .cells (th (u)) 39), (w47.heap.size, .cells (th (o)) 39), (w44.heap.size, .cells (th (o)) 39), (w41.heap.size, .cells (th (h)) 39), (w.heap.size + 1 + 1, .cells #[.string nS, .string nI] 24), (w.heap.size + 1, .cells #[.string jS, .string jI] 24), (w.heap.size, .cells (th (u)) 39)] := ⟨hbs, M49.below hbS⟩
            replace hX2 := hid_then hX2 hbS
            clear z49_0 z49_1 z49_2 c49_3_0 c49_3_1 z49_3 c49_4_0 c49_4_1 z49_4 z49_5
            have z50_0 := Mem.lt M50.1
            have z50_1 := Mem.lt M50.2.1
            have z50_2 := Mem.lt M50.2.2.1
            have z50_3 := Mem.lt M50.2.2.2.1
            have c50_4_0 := Mem.cell (v := .string nS) M50.2.2.2.2.1 0 rfl
            have c50_4_1 := Mem.cell (v := .string nI) M50.2.2.2.2.1 1 rfl
            have z50_4 := Mem.lt M50.2.2.2.2.1
            have c50_5_0 := Mem.cell (v := .string jS) M50.2.2.2.2.2.1 0 rfl
            have c50_5_1 := Mem.cell (v := .string jI) M50.2.2.2.2.2.1 1 rfl
            have z50_5 := Mem.lt M50.2.2.2.2.2.1
            have z50_6 := Mem.lt M50.2.2.2.2.2.2.1
            go_upto_region 21 with (fail)
            cases seen with
            | false =>
              refine wp_region_lit ?_
              iterate 22 go_step
              refine load_th_w rfl _ rfl (bs) rfl ((u)) M50.1 ?_
              refine load_th_w rfl _ rfl (w.heap.size) rfl ((u)) M50.2.2.2.2.2.2.1 ?_
              go_wp2_with fail
              refine Calls.named ?_
              intro W51 hW51
              have hB51_ : Below w.heap.size w W51 := by rw [hW51]; exact hB50
              have hw51_ : Laid W51 := by rw [hW51]; exact hw50
              have M51_ := M50
              rw [← hW51] at M51_
              have hS51 : Below w50.heap.size w50 W51 := by rw [hW51]; exact (Below.refl _ _)
              have hX2_ := hid_then hX2 hS51
              clear hS51 hX2
              clear hW51
              have ZZ51_0 := Lib.hid (Mem.lt M51_.1)
              have ZZ51_1 := Lib.hid (Mem.lt M51_.2.1)
              have ZZ51_2 := Lib.hid (Mem.lt M51_.2.2.1)
              have ZZ51_3 := Lib.hid (Mem.lt M51_.2.2.2.1)
              have ZZ51_4 := Lib.hid (Mem.lt M51_.2.2.2.2.1)
              have ZZ51_5 := Lib.hid (Mem.lt M51_.2.2.2.2.2.1)
              have ZZ51_6 := Lib.hid (Mem.lt M51_.2.2.2.2.2.2.1)
              clear z50_0 z50_1 z50_2 z50_3 c50_4_0 c50_4_1 z50_4 c50_5_0 c50_5_1 z50_5 z50_6
              refine (same_any u (rise L) _ (HAT.out.below hX2_.out)).mono ?_
              rintro e w51 ⟨rfl, hb51⟩
              have hX2 := hid_then hX2_ hb51
              clear hX2_
              have hB51 := below_then hB51_ hb51
              have hw51 := hw51_.below hb51
              have M51 := M51_.below hb51
              clear M51_ hB51_ hb51 hw51_
              have z51_0 := Mem.lt M51.1
              have z51_1 := Mem.lt M51.2.1
              have z51_2 := Mem.lt M51.2.2.1
              have z51_3 := Mem.lt M51.2.2.2.1
              have c51_4_0 := Mem.cell (v := .string nS) M51.2.2.2.2.1 0 rfl
              have c51_4_1 := Mem.cell (v := .string nI) M51.2.2.2.2.1 1 rfl
              have z51_4 := Mem.lt M51.2.2.2.2.1
              have c51_5_0 := Mem.cell (v := .string jS) M51.2.2.2.2.2.1 0 rfl
              have c51_5_1 := Mem.cell (v := .string jI) M51.2.2.2.2.2.1 1 rfl
              have z51_5 := Mem.lt M51.2.2.2.2.2.1
              have z51_6 := Mem.lt M51.2.2.2.2.2.2.1
              go_wp2_with fail
              go_ret
              exact ⟨rfl, hB51⟩
            | true =>
              skip
              refine wp_region_lit ?_
              iterate 22 go_step
              refine load_th_w rfl _ rfl (bs) rfl ((u)) M50.1 ?_
              refine load_th_w rfl _ rfl (w.heap.size) rfl ((u)) M50.2.2.2.2.2.2.1 ?_
              go_wp2_with fail
              refine Calls.named ?_
              intro W51 hW51
              have hB51_ : Below w.heap.size w W51 := by rw [hW51]; exact hB50
              have hw51_ : Laid W51 := by rw [hW51]; exact hw50
              have M51_ := M50
              rw [← hW51] at M51_
              have hS51 : Below w50.heap.size w50 W51 := by rw [hW51]; exact (Below.refl _ _)
              have hX2_ := hid_then hX2 hS51
              clear hS51 hX2
              clear hW51
              have ZZ51_0 := Lib.hid (Mem.lt M51_.1)
              have ZZ51_1 := Lib.hid (Mem.lt M51_.2.1)
              have ZZ51_2 := Lib.hid (Mem.lt M51_.2.2.1)
              have ZZ51_3 := Lib.hid (Mem.lt M51_.2.2.2.1)
              have ZZ51_4 := Lib.hid (Mem.lt M51_.2.2.2.2.1)
              have ZZ51_5 := Lib.hid (Mem.lt M51_.2.2.2.2.2.1)
              have ZZ51_6 := Lib.hid (Mem.lt M51_.2.2.2.2.2.2.1)
              clear z50_0 z50_1 z50_2 z50_3 c50_4_0 c50_4_1 z50_4 c50_5_0 c50_5_1 z50_5 z50_6
              refine (same_any u (rise L) _ (HAT.out.below hX2_.out)).mono ?_
              rintro e w51 ⟨rfl, hb51⟩
              have hX2 := hid_then hX2_ hb51
              clear hX2_
              have hB51 := below_then hB51_ hb51
              have hw51 := hw51_.below hb51
              have M51 := M51_.below hb51
              clear M51_ hB51_ hb51 hw51_
              have z51_0 := Mem.lt M51.1
              have z51_1 := Mem.lt M51.2.1
              have z51_2 := Mem.lt M51.2.2.1
              have z51_3 := Mem.lt M51.2.2.2.1
              have c51_4_0 := Mem.cell (v := .string nS) M51.2.2.2.2.1 0 rfl
              have c51_4_1 := Mem.cell (v := .string nI) M51.2.2.2.2.1 1 rfl
              have z51_4 := Mem.lt M51.2.2.2.2.1
              have c51_5_0 := Mem.cell (v := .string jS) M51.2.2.2.2.2.1 0 rfl
              have c51_5_1 := Mem.cell (v := .string jI) M51.2.2.2.2.2.1 1 rfl
              have z51_5 := Mem.lt M51.2.2.2.2.2.1
              have z51_6 := Mem.lt M51.2.2.2.2.2.2.1
              go_upto_region 23 with (fail)
              refine wp_region_lit ?_
              iterate 12 go_step
              refine load_th_w rfl _ rfl (w44.heap.size) rfl ((o)) M51.2.2.1 ?_
              refine load_th_w rfl _ rfl (w47.heap.size) rfl ((o)) M51.2.1 ?_
              go_wp2_with fail
              refine Calls.named ?_
              intro W52 hW52
              have hB52_ : Below w.heap.size w W52 := by rw [hW52]; exact hB51
              have hw52_ : Laid W52 := by rw [hW52]; exact hw51
              have M52_ := M51
              rw [← hW52] at M52_
              have hS52 : Below w51.heap.size w51 W52 := by rw [hW52]; exact (Below.refl _ _)
              have hX2_ := hid_then hX2 hS52
              clear hS52 hX2
              clear hW52
              have ZZ52_0 := Lib.hid (Mem.lt M52_.1)
              have ZZ52_1 := Lib.hid (Mem.lt M52_.2.1)
              have ZZ52_2 := Lib.hid (Mem.lt M52_.2.2.1)
              have ZZ52_3 := Lib.hid (Mem.lt M52_.2.2.2.1)
              have ZZ52_4 := Lib.hid (Mem.lt M52_.2.2.2.2.1)
              have ZZ52_5 := Lib.hid (Mem.lt M52_.2.2.2.2.2.1)
              have ZZ52_6 := Lib.hid (Mem.lt M52_.2.2.2.2.2.2.1)
              clear z51_0 z51_1 z51_2 z51_3 c51_4_0 c51_4_1 z51_4 c51_5_0 c51_5_1 z51_5 z51_6
              refine (same_any o Lo _ (F4.out _ (HAT.out.below hX2_.out))).mono ?_
              rintro e w52 ⟨rfl, hb52⟩
              have hX2 := hid_then hX2_ hb52
              clear hX2_
              have hB52 := below_then hB52_ hb52
              have hw52 := hw52_.below hb52
              have M52 := M52_.below hb52
              clear M52_ hB52_ hb52 hw52_
              have z52_0 := Mem.lt M52.1
              have z52_1 := Mem.lt M52.2.1
              have z52_2 := Mem.lt M52.2.2.1
              have z52_3 := Mem.lt M52.2.2.2.1
              have c52_4_0 := Mem.cell (v := .string nS) M52.2.2.2.2.1 0 rfl
              have c52_4_1 := Mem.cell (v := .string nI) M52.2.2.2.2.1 1 rfl
              have z52_4 := Mem.lt M52.2.2.2.2.1
              have c52_5_0 := Mem.cell (v := .string jS) M52.2.2.2.2.2.1 0 rfl
              have c52_5_1 := Mem.cell (v := .string jI) M52.2.2.2.2.2.1 1 rfl
              have z52_5 := Mem.lt M52.2.2.2.2.2.1
              have z52_6 := Mem.lt M52.2.2.2.2.2.2.1
              go_wp2_with fail
              go_ret
              exact ⟨rfl, hB52⟩
end Go.Proofs.YtnmepcogijgbjaaGreatDoor
