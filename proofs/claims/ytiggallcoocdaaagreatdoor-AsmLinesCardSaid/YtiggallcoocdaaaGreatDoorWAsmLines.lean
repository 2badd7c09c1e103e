/- A program is printed as a line for each constant, each function, each op, each with a line feed behind. The walk: the law answers true; no memory that was there is turned. Conditions: the listed package variables hold what the program's text lays; every other argument of the parameter types. -/
import Derived.Test.YtiggallcoocdaaaGreatDoorZD
namespace Go.Proofs.YtiggallcoocdaaaGreatDoor
open Go.RowKit
def cntF (fs : List Fn) (q : Nat) : Nat := 16 + ((fs.take q).map fun f => 1 + f.c.length).sum
theorem cntF_succ {fs : List Fn} {q : Nat} (hq : q < fs.length) : cntF fs (q + 1) = cntF fs q + 1 + fs[q].c.length := by
  unfold cntF
  rw [List.take_succ_eq_append_getElem hq, List.map_append, List.sum_append, List.map_singleton, List.sum_singleton]
  omega
theorem cntF_all (fs : List Fn) : cntF fs fs.length = (linesI ⟨madeCs, fs⟩).length := by
  unfold cntF linesI
  rw [List.take_length, List.length_append, List.length_map]
  congr 1
  have h : ∀ l : List Fn, (l.map fun f => 1 + f.c.length).sum = (l.flatMap linesF).length := by
    intro l
    induction l with
    | nil => rfl
    | cons f l ih =>
      rw [List.map_cons, List.sum_cons, ih, List.flatMap_cons, List.length_append]
      unfold linesF
      rw [List.length_cons, List.length_map]
      omega
  exact h fs
theorem cntF_le {fs : List Fn} (hg : ∀ f ∈ fs, fnGood f) : ∀ q, q ≤ fs.length → cntF fs q ≤ 16 + 257 * q
  | 0, _ => by simp [cntF]
  | q + 1, h => by
    have h1 := cntF_le hg q (by omega)
    have h2 := (hg fs[q] (List.getElem_mem (by omega))).2.2.2.2
    rw [cntF_succ (by omega)]
    omega
def feedN (L : List UInt8) (i : Nat) : Nat := (L.take i).count 10
theorem feedN_le (L : List UInt8) (i : Nat) : feedN L i ≤ i := by
  unfold feedN
  have := List.count_le_length (a := (10 : UInt8)) (l := L.take i)
  rw [List.length_take] at this
  omega
theorem feedN_succ {L : List UInt8} {i : Nat} (h : i < L.length) : feedN L (i + 1) = feedN L i + if L.getD i 0 = 10 then 1 else 0 := by
  unfold feedN
  rw [take_snoc8 h, List.count_append]
  congr 1
  by_cases h1 : L.getD i 0 = 10
  · rw [if_pos h1, h1]
    rfl
  · rw [if_neg h1, List.count_eq_zero]
    intro hm
    rw [List.mem_singleton] at hm
    exact h1 hm.symm
set_option maxRecDepth 100000 in
set_option maxHeartbeats 8000000 in
theorem asmLines_walk (v : Value) (ll : List (List UInt8)) (w : World) (hL : LsAt w v ll) (hw : LaidI w) :
    Calls Tryz.prog 4 #[v] w fun e w' => e = .returned (.bool true) ∧ Below w.heap.size w w' := by
  obtain ⟨vo, vc, rfl⟩ := hL.slice
  go_enter Tryz.func4, Tryz.ntmps4
  have hB0 := Below.refl w.heap.size w
  have M0 := Mem.nil w
  have hw0 := hw
  go_wp2_with fail
  refine Calls.named ?_
  intro W1 hW1
  have hB1_ : Below w.heap.size w W1 := by rw [hW1]; exact hB0
  have hw1_ : LaidI W1 := by rw [hW1]; exact hw
  have M1_ := Mem.nil W1
  have hS1 : Below w.heap.size w W1 := by rw [hW1]; exact (Below.refl _ _)
  have hL_ := LsAt.below hL hS1
  clear hS1 hL
  clear hW1
  refine (aex_any _ hw1_).mono ?_
  rintro e w1 ⟨rfl, hb1⟩
  have hL := LsAt.below hL_ hb1
  clear hL_
  have hB1 := below_then hB1_ hb1
  have hw1 := hw1_.below hb1
  have M1 := M1_.below hb1
  clear M1_ hB1_ hb1 hw1_
  go_wp2_with fail
  refine Calls.named ?_
  intro W2 hW2
  have hB2_ : Below w.heap.size w W2 := by rw [hW2]; exact hB1
  have hw2_ : LaidI W2 := by rw [hW2]; exact hw1
  have M2_ := Mem.nil W2
  have hS2 : Below w1.heap.size w1 W2 := by rw [hW2]; exact (Below.refl _ _)
  have hL_ := LsAt.below hL hS2
  clear hS2 hL
  clear hW2
  refine (made_c _ _ _ hL_).mono ?_
  rintro e w2 ⟨fs, co, cc, fo, fc, rfl, hM, hb2⟩
  have hL := LsAt.below hL_ hb2
  clear hL_
  have hB2 := below_then hB2_ hb2
  have hw2 := hw2_.below hb2
  have M2 := M2_.below hb2
  clear M2_ hB2_ hb2 hw2_
  clear hL
  go_upto_region 5 with (fail)
  refine wp_named ?_
  intro w3 hW3
  have hB3 : Below w.heap.size w w3 := by rw [hW3]; exact (below_al hB2 _)
  have hw3 : LaidI w3 := by rw [hW3]; exact (hw2.alloc _)
  have M3 := (M2).new' (w2.heap.size) (by rfl) (.cells #[.slice co 16 cc, .slice fo 3 fc] 27)
  rw [← hW3] at M3
  have hS3 : Below w2.heap.size w2 w3 := by rw [hW3]; exact (below_al (Below.refl _ _) _)
  replace hM := MadeV.below hM hS3
  clear hS3
  clear hW3
  have c3_0_0 := Mem.cell (v := .slice co 16 cc) M3.1 0 rfl
  have c3_0_1 := Mem.cell (v := .slice fo 3 fc) M3.1 1 rfl
  have z3_0 := Mem.lt M3.1
  have HM := Lib.hid hM
  have HMB := Lib.hid M3.1
  have HB3 := Lib.hid hB3
  have HW3 := Lib.hid hw3
  have hck := made_check hM.len hM.good
  obtain ⟨P, hP⟩ : ∃ P : ByteArray, P = ⟨(printI (Im.mk madeCs fs)).toArray⟩ := ⟨_, rfl⟩
  have hPd : P.data.toList = printL (linesI ⟨madeCs, fs⟩) := by rw [hP]; show printI _ = _; unfold printI; rw [if_pos hck]
  have hPs : P.size ≤ 200000 := by
    have := print_small (im := Im.mk madeCs fs) (fun v hv => (madeCs_ok v hv).2)
    rw [hP, b_size]
    omega
  have hlen : P.data.toList.length = P.size := Array.length_toList
  obtain ⟨L, hLL⟩ : ∃ L, L = P.data.toList := ⟨_, rfl⟩
  have hcnt : feedN L P.size = cntF fs 3 := by
    unfold feedN
    rw [List.take_of_length_le (by rw [hLL]; omega), hLL, hPd, count_print (linesI_no _), ← cntF_all, hM.len]
  have hlast : L.getD (P.size - 1) 0 = 10 := by
    have := print_last (ls := linesI ⟨madeCs, fs⟩) (by simp [linesI, madeCs, madeN])
    rw [← hPd, hlen, ← hLL] at this
    rw [List.getD_eq_getElem?_getD, this]
    rfl
  have hpos : 0 < P.size := by
    rw [← hlen, hPd]
    exact List.length_pos_iff.2 (fun e => by
      have := print_last (ls := linesI ⟨madeCs, fs⟩) (by simp [linesI, madeCs, madeN])
      rw [e] at this
      cases this)
  have HP := Lib.hid hP
  have HLL := Lib.hid hLL
  have HLE := Lib.hid (show L.length = P.size by rw [hLL]; exact hlen)
  have HCN := Lib.hid hcnt
  have HLA := Lib.hid hlast
  clear hM hck hP hPd hlen hLL hcnt hlast
  go_wp2_with fail
  go_loopw [5, 6] (fun s5 s6 wr => ∃ k : Nat, k ≤ 3 ∧ s6 = .int .i64 k ∧ s5 = .int .i64 (cntF fs k : Nat) ∧ wr = w3) (fun _ s6 _ => 3 - (intOf s6).toNat)
  case atStart => exact ⟨0, by omega, rfl, rfl, rfl⟩
  case round =>
    obtain ⟨k, hk, rfl, rfl, rfl⟩ := hrel
    have c0 := Mem.cell (v := .slice co 16 cc) HMB.out 0 rfl
    have c1 := Mem.cell (v := .slice fo 3 fc) HMB.out 1 rfl
    obtain ⟨X, hX⟩ : ∃ X, X = cntF fs k := ⟨_, rfl⟩
    have hXl : X ≤ 1000 := by have := cntF_le HM.out.good k (by rw [HM.out.len]; exact hk); omega
    by_cases hlt : k < 3
    · have g1 : (0 : Int) ≤ (k : Int) := by omega
      have g2 : (k : Int) < 3 := by omega
      have hkl : k < fs.length := by rw [HM.out.len]; exact hlt
      obtain ⟨b, off, cv, rfl, -, -, -, d2, ho⟩ := HM.out.fns.row hkl HM.out.len.symm
      obtain ⟨oo, oc, rfl⟩ := ho.slice
      obtain ⟨Y, hY⟩ : ∃ Y, Y = fs[k].c.length := ⟨_, rfl⟩
      have hYl : Y ≤ 256 := by rw [hY]; exact (HM.out.good _ (List.getElem_mem hkl)).2.2.2.2
      have HNX : Hid (cntF fs (k + 1) = X + 1 + Y) := Lib.hid (by rw [cntF_succ hkl, ← hX, ← hY])
      rw [← hX]
      rw [← hY] at d2
      have e1 : IntKind.i64.wrap ((X : Int) + 1) = ((X + 1 : Nat) : Int) := by rw [IntWalk.i64_in _ (by omega)]; omega
      have e2 : IntKind.i64.wrap (((X + 1 : Nat) : Int) + (Y : Int)) = ((X + 1 + Y : Nat) : Int) := by rw [IntWalk.i64_in _ (by omega)]; omega
      clear hX hY ho c0
      go_wp2_with fail
      go_roundw
      case rel => exact ⟨k + 1, by omega, by go_num, by rw [HNX.out]; go_num, trivial⟩
      case measure => simp [intOf]; omega
    · have hk3 : k = 3 := by omega
      have hge3 : (3 : Int) ≤ (k : Int) := by omega
      have HX3 : Hid (X = cntF fs 3) := Lib.hid (by rw [hX, hk3])
      have hszd : Im.sized ⟨madeCs, fs⟩ := madeCs_ok
      have hpr := print_im _ _ _ hszd _ HW3.out HM.out.at P HP.out
      clear hszd
      rw [← hX]
      clear hX hk3 hlt hk
      go_wp2_with fail
      refine hpr.mono ?_
      rintro e w4 ⟨rfl, hb4⟩
      have HB4 := Lib.hid (HB3.out.trans (hb4.mono HB3.out.size))
      clear hb4 hpr c0 c1
      go_wp2_with fail
      go_loopw [8, 9] (fun s8 s9 wx => ∃ i : Nat, i ≤ P.size ∧ s9 = .int .i64 i ∧ s8 = .int .i64 (feedN L i : Nat) ∧ wx = w4) (fun _ s9 _ => P.size - (intOf s9).toNat)
      case atStart => exact ⟨0, by omega, rfl, by simp [feedN], rfl⟩
      case round =>
        obtain ⟨i, hi, rfl, rfl, rfl⟩ := hrel
        obtain ⟨F, hF⟩ : ∃ F, F = feedN L i := ⟨_, rfl⟩
        have hFl : F ≤ i := by rw [hF]; exact feedN_le L i
        by_cases hlt : i < P.size
        · have g3 : (0 : Int) ≤ (i : Int) := by omega
          have g4 : (i : Int) < (P.size : Int) := by omega
          have hix := index_strF Tryz.underlying9 P HLL.out i hlt
          have hsu := feedN_succ (L := L) (i := i) (by rw [HLE.out]; exact hlt)
          obtain ⟨c, hc⟩ : ∃ c, c = L.getD i 0 := ⟨_, rfl⟩
          rw [← hc] at hix hsu
          rw [← hF] at hsu ⊢
          have e3 : IntKind.i64.wrap ((F : Int) + 1) = ((F + 1 : Nat) : Int) := by rw [IntWalk.i64_in _ (by omega)]; omega
          have e4 : IntKind.i64.wrap ((i : Int) + 1) = ((i + 1 : Nat) : Int) := by rw [IntWalk.i64_in _ (by omega)]; omega
          by_cases h10 : c = 10
          · have HNX : Hid (feedN L (i + 1) = F + 1) := Lib.hid (by rw [hsu, if_pos h10])
            have z1 : (c.toNat : Int) = 10 := by rw [h10]; rfl
            have z2 : ((c.toNat : Int) == 10) = true := by rw [h10]; rfl
            clear hsu hc hF h10
            go_wp2_with fail
            go_roundw
            case rel => exact ⟨i + 1, by omega, by go_num, by rw [HNX.out]; go_num, trivial⟩
            case measure => simp [intOf]; omega
          · have HNX : Hid (feedN L (i + 1) = F) := Lib.hid (by rw [hsu, if_neg h10]; rfl)
            have z1 : ¬ (c.toNat : Int) = 10 := fun e => h10 (UInt8.toNat_inj.1 (by show c.toNat = 10; omega))
            have z2 : ((c.toNat : Int) == 10) = false := by simpa using z1
            clear hsu hc hF h10
            go_wp2_with fail
            go_roundw
            case rel => exact ⟨i + 1, by omega, by go_num, by rw [HNX.out], trivial⟩
            case measure => simp [intOf]; omega
        · have hge : (P.size : Int) ≤ (i : Int) := by omega
          have hFX : F = X := by
            rw [hF, HX3.out, ← HCN.out]
            congr 1
            omega
          obtain ⟨Z, hZ⟩ : ∃ Z, Z = P.size - 1 := ⟨_, rfl⟩
          have hZl : Z < P.size := by omega
          have hix := index_strF Tryz.underlying9 P HLL.out Z hZl
          rw [hZ, HLA.out, ← hZ] at hix
          have e5 : IntKind.i64.wrap ((P.size : Int) - 1) = (Z : Int) := by rw [IntWalk.i64_in _ (by omega)]; omega
          have g5 : (0 : Int) ≤ (Z : Int) := by omega
          have g6 : (Z : Int) < (P.size : Int) := by omega
          rw [← hF, hFX]
          clear hF hFX hZ hlt hi
          go_wp2_with fail
          go_ret
          exact ⟨rfl, HB4.out⟩
end Go.Proofs.YtiggallcoocdaaaGreatDoor
