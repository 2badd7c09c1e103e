/- A program's bytes are as many as its parts have: two, what its constants have, four a function, what its ops have. The walk: the law answers true; no memory that was there is turned. Conditions: the listed package variables hold what the program's text lays; every other argument of the parameter types. -/
import Derived.Test.YtecoeaeonedmnaaGreatDoorLaw9
namespace Go.Proofs.YtecoeaeonedmnaaGreatDoor
open Go.RowKit
def szC (k : Nat) : Nat := 2 + ((madeCs.take k).flatMap Vl.put).length
def szF (fs : List Fn) (q : Nat) : Nat := szC 16 + ((fs.take q).flatMap Fn.put).length
def szO (fs : List Fn) (q : Nat) (c : List (Int × Int)) (j : Nat) : Nat := szF fs q + 4 + ((c.take j).flatMap putO).length
theorem szC_succ {k : Nat} (hk : k < madeCs.length) : szC (k + 1) = szC k + madeCs[k].put.length := by
  unfold szC
  rw [fm_take_succ _ _ hk, List.length_append]
  omega
theorem szC_le (k : Nat) (hk : k ≤ 16) : szC k ≤ 2000 := by
  have := fm_take_le Vl.put 64 madeCs k madeCs_put
  unfold szC
  omega
theorem szF_succ {fs : List Fn} {q : Nat} (hq : q < fs.length) : szO fs q fs[q].c fs[q].c.length = szF fs (q + 1) := by
  unfold szO szF
  rw [fm_take_succ _ _ hq, List.length_append, fput_len, List.take_length]
  omega
theorem szF_le {fs : List Fn} (hg : ∀ f ∈ fs, fnGood f) (q : Nat) (hq : q ≤ 3) : szF fs q ≤ 5000 := by
  have := fm_take_le Fn.put 772 fs q (fun f hf => Fn.put_length (fn_check (hg f hf)))
  have := szC_le 16 (by omega)
  unfold szF
  omega
theorem szO_succ {fs : List Fn} {q : Nat} {c : List (Int × Int)} {j : Nat} (hj : j < c.length) : szO fs q c (j + 1) = szO fs q c j + (putO c[j]).length := by
  unfold szO
  rw [fm_take_succ _ _ hj, List.length_append]
  omega
theorem szO_le {fs : List Fn} (hg : ∀ f ∈ fs, fnGood f) (q : Nat) (hq : q ≤ 3) {c : List (Int × Int)} {j : Nat} (hj : j ≤ 256) : szO fs q c j ≤ 6000 := by
  have := fm_take_le putO 3 c j (fun o _ => putO_length o)
  have := szF_le hg q hq
  unfold szO
  omega
set_option maxRecDepth 100000 in
set_option maxHeartbeats 8000000 in
theorem imageSizes_walk (v : Value) (ll : List (List UInt8)) (w : World) (hL : LsAt w v ll) (hw : LaidI w) :
    Calls Tryz.prog 6 #[v] w fun e w' => e = .returned (.bool true) ∧ Below w.heap.size w w' := by
  obtain ⟨vo, vc, rfl⟩ := hL.slice
  go_enter Tryz.func6, Tryz.ntmps6
  have hB0 := Below.refl w.heap.size w
  have M0 := Mem.nil w
  have hw0 := hw
  go_wp2_with fail
  refine Calls.named ?_
  intro W1 hW1
  have hB1_ : Below w.heap.size w W1 := by rw [hW1]; exact hB0
  have hw1_ : LaidI W1 := by rw [hW1]; exact hw
  have M1_ := Mem.nil W1
  have hS1 : Below w.heap.size w W1 := by rw [hW1]; exact (Below.refl _ _)
  have hL_ := LsAt.below hL hS1
  clear hS1 hL
  clear hW1
  refine (examples_any _ hw1_).mono ?_
  rintro e w1 ⟨rfl, hb1⟩
  have hL := LsAt.below hL_ hb1
  clear hL_
  have hB1 := below_then hB1_ hb1
  have hw1 := hw1_.below hb1
  have M1 := M1_.below hb1
  clear M1_ hB1_ hb1 hw1_
  go_wp2_with fail
  refine Calls.named ?_
  intro W2 hW2
  have hB2_ : Below w.heap.size w W2 := by rw [hW2]; exact hB1
  have hw2_ : LaidI W2 := by rw [hW2]; exact hw1
  have M2_ := Mem.nil W2
  have hS2 : Below w1.heap.size w1 W2 := by rw [hW2]; exact (Below.refl _ _)
  have hL_ := LsAt.below hL hS2
  clear hS2 hL
  clear hW2
  refine (made_c _ _ _ hL_).mono ?_
  rintro e w2 ⟨fs, co, cc, fo, fc, rfl, hM, hb2⟩
  have hL := LsAt.below hL_ hb2
  clear hL_
  have hB2 := below_then hB2_ hb2
  have hw2 := hw2_.below hb2
  have M2 := M2_.below hb2
  clear M2_ hB2_ hb2 hw2_
  clear hL
  go_upto_region 6 with (fail)
  refine wp_named ?_
  intro w3 hW3
  have hB3 : Below w.heap.size w w3 := by rw [hW3]; exact (below_al hB2 _)
  have hw3 : LaidI w3 := by rw [hW3]; exact (hw2.alloc _)
  have M3 := (M2).new' (w2.heap.size) (by rfl) (.cells #[.slice co 16 cc, .slice fo 3 fc] 25)
  rw [← hW3] at M3
  have hS3 : Below w2.heap.size w2 w3 := by rw [hW3]; exact (below_al (Below.refl _ _) _)
  replace hM := MadeV.below hM hS3
  clear hS3
  clear hW3
  have c3_0_0 := Mem.cell (v := .slice co 16 cc) M3.1 0 rfl
  have c3_0_1 := Mem.cell (v := .slice fo 3 fc) M3.1 1 rfl
  have z3_0 := Mem.lt M3.1
  have HM := Lib.hid hM
  have HMB := Lib.hid M3.1
  have HB3 := Lib.hid hB3
  have HW3 := Lib.hid hw3
  clear hM
  go_wp2_with fail
  go_loopw [5, 6] (fun s5 s6 wr => ∃ k : Nat, k ≤ 16 ∧ s6 = .int .i64 k ∧ s5 = .int .i64 (szC k : Nat) ∧ Below w3.heap.size w3 wr) (fun _ s6 _ => 16 - (intOf s6).toNat)
  case atStart => exact ⟨0, by omega, rfl, rfl, Below.refl _ _⟩
  case round =>
    obtain ⟨k, hk, rfl, rfl, hb⟩ := hrel
    have hbk := (hb.block _ (Mem.lt HMB.out)).trans HMB.out
    have c0 := Mem.cell (v := .slice co 16 cc) hbk 0 rfl
    by_cases hlt : k < 16
    · have g1 : (0 : Int) ≤ (k : Int) := by omega
      have g2 : (k : Int) < 16 := by omega
      have hkl : k < madeCs.length := hlt
      obtain ⟨b, off, rfl, hbl, d0, d1, d2, d3, d4⟩ := (HM.out.below hb).vs.row hkl rfl
      obtain ⟨P, hP⟩ : ∃ P : ByteArray, P = ⟨madeCs[k].put.toArray⟩ := ⟨_, rfl⟩
      have hps : P.size = madeCs[k].put.length := by rw [hP]; exact List.size_toArray
      have hok := madeCs_ok madeCs[k] (List.getElem_mem hkl)
      have hput := fun W (hW : LaidI W) => vput_l madeCs[k] hok.1 hok.2 W hW
      rw [← hP] at hput
      obtain ⟨N1, hN1⟩ : ∃ N1, N1 = szC k := ⟨_, rfl⟩
      have hN2 : szC (k + 1) = N1 + P.size := by rw [szC_succ hkl, hN1, hps]
      have hle := szC_le (k + 1) (by omega)
      rw [hN2] at hle
      rw [← hN1]
      have HN2 := Lib.hid hN2
      have HN1 := Lib.hid hN1
      have e1 : IntKind.i64.wrap ((N1 : Int) + (P.size : Int)) = ((N1 + P.size : Nat) : Int) := by rw [IntWalk.i64_in _ (by omega)]; omega
      have hwr := HW3.out.below hb
      have HB := Lib.hid hb
      clear hP hps hok hN1 hN2 hbk hb
      go_wp2_with fail
      refine (hput _ hwr).mono ?_
      rintro e w4 ⟨rfl, hb4⟩
      have HB4 := Lib.hid (HB.out.trans (hb4.mono HB.out.size))
      clear hb4 hput c0 d0 d1 d2 d3 d4 hwr
      go_wp2_with fail
      go_roundw
      case rel => exact ⟨k + 1, by omega, by go_num, by rw [HN2.out]; go_num, HB4.out⟩
      case measure => simp [intOf]; omega
    · have hk16 : k = 16 := by omega
      have hge16 : (16 : Int) ≤ (k : Int) := by omega
      have HB := Lib.hid hb
      have HS0 : Hid (szF fs 0 = szC k) := Lib.hid (by rw [hk16]; simp [szF])
      clear hbk hb hlt hk hk16
      go_wp2_with fail
      go_loopw [5, 7] (fun s5 s7 wx => ∃ q : Nat, q ≤ 3 ∧ s7 = .int .i64 q ∧ s5 = .int .i64 (szF fs q : Nat) ∧ Below w3.heap.size w3 wx) (fun _ s7 _ => 3 - (intOf s7).toNat)
      case atStart => exact ⟨0, by omega, rfl, by rw [HS0.out], HB.out⟩
      case round =>
        clear HB HS0 hge16 c0
        obtain ⟨q, hq, rfl, rfl, hb⟩ := hrel
        have hbk := (hb.block _ (Mem.lt HMB.out)).trans HMB.out
        have c1 := Mem.cell (v := .slice fo 3 fc) hbk 1 rfl
        by_cases hlt : q < 3
        · have g1 : (0 : Int) ≤ (q : Int) := by omega
          have g2 : (q : Int) < 3 := by omega
          have hql : q < fs.length := by rw [HM.out.len]; exact hlt
          obtain ⟨N1, hN1⟩ : ∃ N1, N1 = szF fs q := ⟨_, rfl⟩
          have hle1 : N1 ≤ 5000 := by rw [hN1]; exact szF_le HM.out.good q hq
          have e1 : IntKind.i64.wrap ((N1 : Int) + 4) = ((N1 + 4 : Nat) : Int) := by rw [IntWalk.i64_in _ (by omega)]; omega
          obtain ⟨c, hc⟩ : ∃ c, c = fs[q].c := ⟨_, rfl⟩
          have hcl : c.length ≤ 256 := by rw [hc]; exact (HM.out.good _ (List.getElem_mem hql)).2.2.2.2
          have HSO : Hid (szO fs q c 0 = N1 + 4) := Lib.hid (by rw [hN1]; simp [szO])
          have HSF : Hid (szO fs q c c.length = szF fs (q + 1)) := Lib.hid (by rw [hc]; exact szF_succ hql)
          rw [← hN1]
          have HC := Lib.hid hc
          have HB := Lib.hid hb
          clear hc hN1 hb hbk
          go_wp2_with fail
          go_loopw [5, 8] (fun s5 s8 wy => ∃ j : Nat, j ≤ c.length ∧ s8 = .int .i64 j ∧ s5 = .int .i64 (szO fs q c j : Nat) ∧ Below w3.heap.size w3 wy) (fun _ s8 _ => c.length - (intOf s8).toNat)
          case atStart => exact ⟨0, by omega, rfl, by rw [HSO.out]; go_num, HB.out⟩
          case round =>
            clear HB c1
            obtain ⟨j, hj, rfl, rfl, hb⟩ := hrel
            have hbk := (hb.block _ (Mem.lt HMB.out)).trans HMB.out
            have c1 := Mem.cell (v := .slice fo 3 fc) hbk 1 rfl
            obtain ⟨b, off, cv, rfl, hbl, -, -, d2, ho⟩ := (HM.out.below hb).fns.row hql HM.out.len.symm
            rw [← HC.out] at ho
            obtain ⟨oo, oc, rfl⟩ := ho.slice
            by_cases hlj : j < c.length
            · have g3 : (0 : Int) ≤ (j : Int) := by omega
              have g4 : (j : Int) < (c.length : Int) := by omega
              obtain ⟨b2, off2, rfl, hbl2, d3, d4⟩ := ho.row hlj rfl
              obtain ⟨P, hP⟩ : ∃ P : ByteArray, P = ⟨(putO c[j]).toArray⟩ := ⟨_, rfl⟩
              have hps : P.size = (putO c[j]).length := by rw [hP]; exact List.size_toArray
              have hput := fun W (hW : LaidI W) => put_op c[j].1 c[j].2 W hW.o
              rw [show opPut c[j].1 c[j].2 = putO c[j] from rfl, ← hP] at hput
              obtain ⟨N2, hN2⟩ : ∃ N2, N2 = szO fs q c j := ⟨_, rfl⟩
              have hN3 : szO fs q c (j + 1) = N2 + P.size := by rw [szO_succ hlj, hN2, hps]
              have hle := szO_le HM.out.good q (by omega) (c := c) (j := j + 1) (by omega)
              rw [hN3] at hle
              rw [← hN2]
              have HN3 := Lib.hid hN3
              have e2 : IntKind.i64.wrap ((N2 : Int) + (P.size : Int)) = ((N2 + P.size : Nat) : Int) := by rw [IntWalk.i64_in _ (by omega)]; omega
              have hwr := HW3.out.below hb
              have HB := Lib.hid hb
              clear hP hps hN2 hN3 hbk hb ho
              go_wp2_with fail
              refine (hput _ hwr).mono ?_
              rintro e w4 ⟨rfl, hb4⟩
              have HB4 := Lib.hid (HB.out.trans (hb4.mono HB.out.size))
              clear hb4 hput c1 d2 d3 d4 hwr
              go_wp2_with fail
              go_roundw
              case rel => exact ⟨j + 1, by omega, by go_num, by rw [HN3.out]; go_num, HB4.out⟩
              case measure => simp [intOf]; omega
            · have hjl : j = c.length := by omega
              have hgej : (c.length : Int) ≤ (j : Int) := by omega
              have HB := Lib.hid hb
              have HSJ : Hid (szO fs q c j = szF fs (q + 1)) := Lib.hid (by rw [hjl]; exact HSF.out)
              obtain ⟨N2, hN2⟩ : ∃ N2, N2 = szO fs q c j := ⟨_, rfl⟩
              rw [← hN2]
              have HN2 := Lib.hid hN2
              clear hN2 hjl hbk hb ho hlj
              go_wp2_with fail
              go_roundw
              case rel => exact ⟨q + 1, by omega, by go_num, by rw [HN2.out, HSJ.out], HB.out⟩
              case measure => simp [intOf]; omega
        · have hq3 : q = 3 := by omega
          subst hq3
          have hge3 : (3 : Int) ≤ ((3 : Nat) : Int) := by omega
          have c0 := Mem.cell (v := .slice co 16 cc) hbk 0 rfl
          obtain ⟨P, hP⟩ : ∃ P : ByteArray, P = ⟨(Im.put ⟨madeCs, fs⟩).toArray⟩ := ⟨_, rfl⟩
          have hput := made_put_c fs _ co fo cc fc _ (HW3.out.below hb) (HM.out.below hb)
          rw [← hP] at hput
          have hps : P.size = szF fs 3 := by
            rw [hP, show (ByteArray.mk (Im.put ⟨madeCs, fs⟩).toArray).size = (Im.put ⟨madeCs, fs⟩).length from List.size_toArray, put_len]
            have h3 : fs.take 3 = fs := List.take_of_length_le (by rw [HM.out.len]; omega)
            have h16 : madeCs.take 16 = madeCs := rfl
            unfold szF szC
            rw [h3, h16]
          obtain ⟨N3, hN3⟩ : ∃ N3, N3 = szF fs 3 := ⟨_, rfl⟩
          rw [← hN3] at hps ⊢
          have HB := Lib.hid hb
          clear hP hN3 hb hbk hlt hq
          go_wp2_with fail
          refine hput.mono ?_
          rintro e w5 ⟨rfl, hb5⟩
          have HB5 := Lib.hid (HB3.out.trans ((HB.out.mono HB3.out.size).trans (hb5.mono (Nat.le_trans HB3.out.size HB.out.size))))
          clear hb5 hput c0 c1
          go_wp2_with fail
          go_ret
          exact ⟨rfl, HB5.out⟩
end Go.Proofs.YtecoeaeonedmnaaGreatDoor
