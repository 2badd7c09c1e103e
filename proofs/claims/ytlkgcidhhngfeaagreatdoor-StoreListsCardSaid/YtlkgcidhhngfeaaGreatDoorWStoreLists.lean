/- The walk of StoreLists. -/
import Derived.Test.YtlkgcidhhngfeaaGreatDoorZC
namespace Go.Proofs.YtlkgcidhhngfeaaGreatDoor
open Go.RowKit Go.Maps
theorem labels_one (B : Nat) (X : Nat → Prop) (p : Nat) (S : St) (w : World) (h : Hid (One B X w p S)) (h12 : S.length ≤ 12) (hw : Laid w) :
    Calls Tryz.prog 17 #[.pointer (some ⟨p, 0, none⟩)] w fun e w' => ∃ (v : Value) (L : List LL), e = .returned v ∧ Hid (L.Nodup ∧ ∀ x, x ∈ L ↔ HasN S x) ∧ Hid (w'.ownsRow w.heap.size 25 2 v L.length (L.flatMap celL)) ∧ Below w.heap.size w w' := by
  obtain ⟨W, Q, h1, _, _⟩ := h.out
  exact labels_any p S W Q w h1 h12 hw
theorem hid_lab {w w' : World} {a : Option Addr} {c : Nat} {L : List LL} (h : Hid (LabAt w a c L)) (hb : Below w.heap.size w w') : Hid (LabAt w' a c L) := Lib.hid (h.out.below hb)
set_option maxRecDepth 100000 in
set_option maxHeartbeats 32000000 in
theorem storeLists_raw (v : Value) (l : List Ac) (w : World) (hl : AcAt w v l) (hw : Laid w) :
    Calls Tryz.prog 4 #[v] w fun e w' => e = .returned (.bool true) ∧ Below w.heap.size w w' := by
  obtain ⟨S0, hS0⟩ : ∃ s, s = fillS l := ⟨_, rfl⟩
  have HFILL : Hid (∀ W : World, Below w.heap.size w W → Laid W → Calls Tryz.prog 7 #[v] W fun e w' => ∃ p, e = .returned (.pointer (some ⟨p, 0, none⟩)) ∧ Hid (One w.heap.size (fun _ => False) w' p S0) ∧ Below W.heap.size W w') := Lib.hid (by rw [hS0]; exact fun W hb hL => (filled_any v l W (acAt_below hl hb) hL).mono fun _ _ ⟨p, h1, h2, h3⟩ => ⟨p, h1, one_conv h2 hb.size fun _ h => h.elim, h3⟩)
  have HST : Hid (SortedS S0) := Lib.hid (by rw [hS0]; exact fillS_sorted l)
  have HL0 : Hid (S0.length ≤ 8) := Lib.hid (by rw [hS0]; exact fillS_len8 l)
  obtain ⟨N0, hN0⟩ : ∃ n, n = S0.length := ⟨_, rfl⟩
  have HN0 := Lib.hid hN0
  have hn8 : N0 ≤ 8 := by rw [hN0]; exact HL0.out
  clear hl hS0 hN0
  go_enter Tryz.func4, Tryz.ntmps4
  have hB0 := Below.refl w.heap.size w
  have M0 := Mem.nil w
  have hw0 := hw
  go_wp2_with fail
  refine Calls.named ?_
  intro W1 hW1
  have hB1_ : Below w.heap.size w W1 := by rw [hW1]; exact hB0
  have hw1_ : Laid W1 := by rw [hW1]; exact hw
  have M1_ := Mem.nil W1
  clear hW1
  refine (examples_any _ (hw1_)).mono ?_
  rintro e w1 ⟨rfl, hb1⟩
  have hB1 := below_then hB1_ hb1
  have hw1 := hw1_.below hb1
  have M1 := M1_.below hb1
  clear M1_ hB1_ hb1 hw1_
  go_wp2_with fail
  refine Calls.named ?_
  intro W2 hW2
  have hB2_ : Below w.heap.size w W2 := by rw [hW2]; exact hB1
  have hw2_ : Laid W2 := by rw [hW2]; exact hw1
  have M2_ := Mem.nil W2
  clear hW2
  refine (HFILL.out _ hB2_ (hw2_)).mono ?_
  rintro e w2 ⟨p, rfl, HS, hb2⟩
  have hB2 := below_then hB2_ hb2
  have hw2 := hw2_.below hb2
  have M2 := M2_.below hb2
  clear M2_ hB2_ hb2 hw2_
  clear HFILL
  go_wp2_with fail
  refine Calls.named ?_
  intro W3 hW3
  have hB3_ : Below w.heap.size w W3 := by rw [hW3]; exact hB2
  have hw3_ : Laid W3 := by rw [hW3]; exact hw2
  have M3_ := Mem.nil W3
  have hS3 : Below w2.heap.size w2 W3 := by rw [hW3]; exact (Below.refl _ _)
  have HS_ := hid_one HS hS3
  clear hS3 HS
  clear hW3
  refine (labels_one w.heap.size _ p S0 _ HS_ (by have := HL0.out; omega) (hw3_)).mono ?_
  rintro e w3 ⟨vl, L, rfl, HN, HRL, hb3⟩
  have HS := hid_one HS_ hb3
  clear HS_
  have hB3 := below_then hB3_ hb3
  have hw3 := hw3_.below hb3
  have M3 := M3_.below hb3
  clear M3_ hB3_ hb3 hw3_
  obtain ⟨la, lc, rfl, hla⟩ := labAt_of HRL.out
  have HLA := Lib.hid hla
  clear HRL hla
  obtain ⟨n1, hn1⟩ : ∃ n, n = L.length := ⟨_, rfl⟩
  rw [← hn1]
  have HN1 := Lib.hid hn1
  have HSM : Hid (sumN S0 L = S0.length) := Lib.hid (by
    obtain ⟨WW, QQ, h1, _⟩ := HS.out
    exact sumN_labels HN.out h1.ok)
  have HOK : Hid (∀ e ∈ S0, OkE e) := Lib.hid (by
    obtain ⟨WW, QQ, h1, _⟩ := HS.out
    exact h1.ok)
  have hn18 : n1 ≤ 8 := by rw [hn1]; have := hasN_len HN.out.1 HN.out.2; have := HL0.out; omega
  clear hn1
  go_wp2_with fail
  refine Calls.named ?_
  intro W4 hW4
  have hB4_ : Below w.heap.size w W4 := by rw [hW4]; exact hB3
  have hw4_ : Laid W4 := by rw [hW4]; exact hw3
  have M4_ := Mem.nil W4
  have hS4 : Below w3.heap.size w3 W4 := by rw [hW4]; exact (Below.refl _ _)
  have HS_ := hid_one HS hS4
  have HLA_ := hid_lab HLA hS4
  clear hS4 HS HLA
  clear hW4
  refine (names_one w.heap.size _ p S0 _ HS_ (by have := HL0.out; omega) (hw4_)).mono ?_
  rintro e w4 ⟨vn, rfl, HR0, hb4⟩
  have HS := hid_one HS_ hb4
  have HLA := hid_lab HLA_ hb4
  clear HS_ HLA_
  have hB4 := below_then hB4_ hb4
  have hw4 := hw4_.below hb4
  have M4 := M4_.below hb4
  clear M4_ hB4_ hb4 hw4_
  obtain ⟨na, nc, rfl, hna⟩ := strAt_of HR0.out
  have hnl : (S0.map (·.1)).length = N0 := by rw [List.length_map]; exact HN0.out.symm
  rw [hnl]
  clear HR0 hna hnl
  have HST1 := Lib.hid (And.intro hB4 (And.intro HS HLA))
  clear hB4 HS HLA M4
  obtain ⟨wA, hwA⟩ : ∃ x, x = w4 := ⟨_, rfl⟩
  rw [← hwA] at HST1 ⊢
  have HWA := Lib.hid hwA
  clear hwA
  go_wp2_with fail
  go_loopw [7, 8] (fun vn vi wr => ∃ k : Nat, k ≤ n1 ∧ vi = .int .i64 k ∧ vn = .int .i64 (sumN S0 (L.take k) : Nat) ∧ Hid (Below wA.heap.size wA wr)) (fun _ vi _ => n1 - (intOf vi).toNat)
  case atStart => exact ⟨0, by omega, rfl, rfl, Lib.hid (Below.refl _ _)⟩
  case round =>
    obtain ⟨k, hkn, rfl, rfl, HBR⟩ := hrel
    obtain ⟨w50, rfl⟩ : ∃ x, x = wr := ⟨_, rfl⟩
    have hB50 : Below w.heap.size w w50 := below_then HST1.out.1 HBR.out
    have hw50 := hw0.below hB50
    have M50 := Mem.nil w50
    obtain ⟨c, hc⟩ : ∃ c, c = sumN S0 (L.take k) := ⟨_, rfl⟩
    rw [← hc]
    have hc8 : c ≤ N0 := by rw [hc, HN0.out]; exact sumN_le HSM.out k
    have HC := Lib.hid hc
    clear hc
    by_cases hlt : k < n1
    · have hkl : k < L.length := by rw [← HN1.out]; exact hlt
      obtain ⟨⟨a1, a2⟩, hx⟩ : ∃ x, L[k]? = some x := ⟨_, List.getElem?_eq_getElem hkl⟩
      have HX := Lib.hid hx
      have HXN : Hid (HasN S0 (a1, a2)) := Lib.hid ((HN.out.2 _).1 (List.mem_of_getElem? hx))
      obtain ⟨g, hg0, hg, hcap, ck1, ck2⟩ := (HST1.out.2.2.out.below HBR.out).get hx
      subst hg0
      have hcap1 : n1 ≤ lc := by rw [HN1.out]; exact hcap
      obtain ⟨NL, hNL⟩ : ∃ q, q = namesOf S0 a1 a2 := ⟨_, rfl⟩
      obtain ⟨m, hm⟩ : ∃ q, q = NL.length := ⟨_, rfl⟩
      have hm0 : 0 < m := by rw [hm, hNL]; exact List.length_pos_iff.2 HXN.out.1
      have hsum : sumN S0 (L.take (k + 1)) = c + m := by rw [sumN_take hx, HC.out, hm, hNL]
      have hcm : c + m ≤ N0 := by rw [← hsum, HN0.out]; exact sumN_le HSM.out (k + 1)
      have HSUM := Lib.hid hsum
      have HNL := Lib.hid (And.intro hNL hm)
      have HO : Hid (One w.heap.size (fun _ => False) w50 p S0) := Lib.hid (HST1.out.2.1.out.below HBR.out)
      have pk0 : (0 : Int) ≤ (k : Int) := by omega
      have pkn : (k : Int) < (n1 : Int) := by omega
      have pk1 : ((k : Int)).toNat = k := by omega
      clear hkl hx hcap hNL hm hsum
      go_wp2_with fail
      refine Calls.named ?_
      intro W51 hW51
      have hB51_ : Below w.heap.size w W51 := by rw [hW51]; exact hB50
      have hw51_ : Laid W51 := by rw [hW51]; exact hw50
      have M51_ := Mem.nil W51
      have hS51 : Below w50.heap.size w50 W51 := by rw [hW51]; exact (Below.refl _ _)
      have HO_ := hid_one HO hS51
      have HBR_ := hid_bl HBR hS51
      clear hS51 HO HBR
      clear hW51
      refine (of_one w.heap.size _ p S0 a1 a2 HXN.out.2.1 HXN.out.2.2 _ HO_ (by have := HL0.out; omega) (hw51_)).mono ?_
      rw [← HNL.out.1]
      rintro e w51 ⟨vo, rfl, HR1, hb51⟩
      have HO := hid_one HO_ hb51
      have HBR := hid_bl HBR_ hb51
      clear HO_ HBR_
      have hB51 := below_then hB51_ hb51
      have hw51 := hw51_.below hb51
      have M51 := M51_.below hb51
      clear M51_ hB51_ hb51 hw51_
      obtain ⟨oa, oc, rfl, hoa⟩ := strAt_of HR1.out
      rw [← HNL.out.2]
      have HST2 := Lib.hid (And.intro hB51 hoa)
      clear HR1 hoa ck1 ck2 hg
      obtain ⟨wL, hwL⟩ : ∃ x, x = w51 := ⟨_, rfl⟩
      rw [← hwL] at HST2 HBR HO ⊢
      have HBL := Lib.hid (And.intro HBR HO)
      have HWL := Lib.hid hwL
      obtain ⟨cm, hcm2⟩ : ∃ q, q = c + m := ⟨_, rfl⟩
      rw [← hcm2] at HSUM hcm
      have pcm : (c : Int) + (m : Int) = (cm : Int) := by omega
      have hwcm : IntKind.i64.wrap (cm : Int) = (cm : Int) := by rw [IntKind.wrap_i64]; omega
      clear hwL hcm2 HBR HO M51 hB51
      go_wp2_with fail
      go_loopw [10] (fun vj wr => ∃ j : Nat, j ≤ m ∧ vj = .int .i64 j ∧ Hid (Below wL.heap.size wL wr)) (fun vj _ => m - (intOf vj).toNat)
      case atStart => exact ⟨0, by omega, rfl, Lib.hid (Below.refl _ _)⟩
      case round =>
        obtain ⟨j, hjm, rfl, HBJ⟩ := hrel
        obtain ⟨w60, rfl⟩ : ∃ x, x = wr := ⟨_, rfl⟩
        have hB60 : Below w.heap.size w w60 := below_then HST2.out.1 HBJ.out
        have hw60 := hw0.below hB60
        have M60 := Mem.nil w60
        by_cases hjt : j < m
        · have hjl : j < NL.length := by rw [← HNL.out.2]; exact hjt
          obtain ⟨key, hkey⟩ : ∃ x, NL[j]? = some x := ⟨_, List.getElem?_eq_getElem hjl⟩
          obtain ⟨z, hz, hz1, hz2⟩ := names_get HST.out (by rw [← HNL.out.1]; exact hkey)
          obtain ⟨h, hh0, hh, hocap, ok1⟩ := (HST2.out.2.below HBJ.out).get hkey
          subst hh0
          have hocap1 : m ≤ oc := by rw [HNL.out.2]; exact hocap
          have hksz : key.size ≤ 140737488351232 := by have := okE_size (HOK.out _ ((getS_mem HST.out).2 hz)); simp only at this; omega
          have HG1 : Hid (∀ (B : Nat) (X : Nat → Prop) (W : World), Hid (One B X W p S0) → Calls Tryz.prog 12 #[.pointer (some ⟨p, 0, none⟩), .string key] W fun e w' => ∃ a c, e = .returned (.tuple #[.agg (ox (z.raw a c)), .bool true]) ∧ Hid (ObIn w' (fun b => W.heap.size ≤ b) (.agg (ox (z.raw a c))) z) ∧ Below W.heap.size W w') := Lib.hid (fun B X W h => by have := get_one B X p S0 key hksz W h; rw [hz] at this; exact this)
          have HZ := Lib.hid (And.intro hz1 hz2)
          have HO : Hid (One w.heap.size (fun _ => False) w60 p S0) := Lib.hid (HBL.out.2.out.below HBJ.out)
          have HLA := HST1.out.2.2.out.below (below_then HBL.out.1.out HBJ.out)
          obtain ⟨g', e1, hg, hcap, ck1, ck2⟩ := HLA.get HX.out
          cases e1
          have HCK : Hid (CellAt w60 g (k * 2) (.string a1)) := Lib.hid ⟨hg, ck1⟩
          have HCK2 : Hid (CellAt w60 g (k * 2 + 1) (.string a2)) := Lib.hid ⟨hg, ck2⟩
          have pj0 : (0 : Int) ≤ (j : Int) := by omega
          have pjn : (j : Int) < (m : Int) := by omega
          have pj1 : ((j : Int)).toNat = j := by omega
          clear hjl hz hz1 hz2 hksz HLA hcap ck1 ck2 hocap hkey
          go_wp2_with fail
          refine Calls.named ?_
          intro W61 hW61
          have hB61_ : Below w.heap.size w W61 := by rw [hW61]; exact hB60
          have hw61_ : Laid W61 := by rw [hW61]; exact hw60
          have M61_ := Mem.nil W61
          have hS61 : Below w60.heap.size w60 W61 := by rw [hW61]; exact (Below.refl _ _)
          have HO_ := hid_one HO hS61
          have HBJ_ := hid_bl HBJ hS61
          have HCK_ := hid_cellat HCK hS61
          have HCK2_ := hid_cellat HCK2 hS61
          clear hS61 HO HBJ HCK HCK2
          clear hW61
          refine (HG1.out _ _ _ HO_).mono ?_
          rintro e w61 ⟨a3, c3, rfl, HO1, hb61⟩
          have HO := hid_one HO_ hb61
          have HBJ := hid_bl HBJ_ hb61
          have HCK := hid_cellat HCK_ hb61
          have HCK2 := hid_cellat HCK2_ hb61
          clear HO_ HBJ_ HCK_ HCK2_
          have hB61 := below_then hB61_ hb61
          have hw61 := hw61_.below hb61
          have M61 := M61_.below hb61
          clear M61_ hB61_ hb61 hw61_
          clear HO
          have gL := HBJ.out.size
          have gg1 := HCK.out.1
          have yy1 := hB61.size
          simp only
          iterate 13 go_step
          refine wpl_named ?_
          intro w62 hW62
          have hB62 : Below w.heap.size w w62 := by rw [hW62]; exact (below_al hB61 _)
          have hw62 : Laid w62 := by rw [hW62]; exact (hw61.alloc _)
          have M62 : Mem w62 [(w61.heap.size, .cells (ox (ox0)) 32)] := by rw [hW62]; exact (M61).new' (w61.heap.size) (by rfl) (.cells (ox (ox0)) 32)
          have hS62 : Below w61.heap.size w61 w62 := by rw [hW62]; exact (below_al (Below.refl _ _) _)
          replace HBJ := hid_bl HBJ hS62
          replace HCK := hid_cellat HCK hS62
          replace HCK2 := hid_cellat HCK2 hS62
          clear hS62
          clear hW62
          have z62_0 := Mem.lt M62.1
          refine store_ox rfl _ _ rfl (w61.heap.size) rfl (ox0) ((z.raw a3 c3)) rfl M62.1 ?_
          intro w63 hW63
          have hB63 : Below w.heap.size w w63 := by rw [hW63]; exact below_setCells (B := w.heap.size) hB62 (b := w61.heap.size) (by have := hB62.size; omega) 0 _
          have hw63 : Laid w63 := hw0.below hB63
          have M63 : Mem w63 [(w61.heap.size, .cells (ox ((z.raw a3 c3))) 32)] := by rw [hW63]; exact ⟨set_ox M62.1 _, trivial⟩
          have HBJ2 := bl_st HBJ (b := w61.heap.size) gL 0 (oxL ((z.raw a3 c3)))
          rw [← hW63] at HBJ2
          have HCK3 := cellat_st HCK (n := w61.heap.size) (by omega) 0 (oxL ((z.raw a3 c3)))
          rw [← hW63] at HCK3
          have HCK4 := cellat_st HCK2 (n := w61.heap.size) (by omega) 0 (oxL ((z.raw a3 c3)))
          rw [← hW63] at HCK4
          clear z62_0
          clear hW63
          have z63_0 := Mem.lt M63.1
          clear HBJ HCK HCK2
          have hq : ∀ w, (binOp .neq 25 (.agg #[.string (z.raw a3 c3).lS, .string (z.raw a3 c3).lI]) (.agg #[.string a1, .string a2])).run Tryz.prog w = .ok (.bool false) w := fun w => by
            show (binOp .neq 25 (.agg #[.string z.lS, .string z.lI]) (.agg #[.string a1, .string a2])).run Tryz.prog w = _
            rw [neq_lab, HZ.out.1, HZ.out.2, (labB_iff a1 a2 a1 a2).2 ⟨rfl, rfl⟩]
            rfl
          have d0 := HCK3.out.1
          go_upto_region 17 with (fail)
          have d1 := fun p : After w63 => (p.h.cell (p := ⟨g, k * 2, none⟩) d0).trans HCK3.out.2
          have d2 := fun p : After w63 => (p.h.cell (p := ⟨g, k * 2 + 1, none⟩) d0).trans HCK4.out.2
          have e1 := fun p : After w63 => Mem.cell (v := .string (z.raw a3 c3).lS) (Mem.after M63 p).1 1 rfl
          have e2 := fun p : After w63 => Mem.cell (v := .string (z.raw a3 c3).lI) (Mem.after M63 p).1 2 rfl
          refine wp_region_after (by kernel_rfl) (by kernel_rfl) ?_
          repeat (go_big_quiet_step (((fail))))
          refine wpQuiet_nil ?_
          rintro _ ⟨p63, rfl⟩
          clear z63_0
          obtain ⟨w64, hW64⟩ : ∃ x, x = p63.world := ⟨_, rfl⟩
          have hB64 : Below w.heap.size w w64 := by rw [hW64]; exact below_then hB63 p63.h
          have hw64 : Laid w64 := by rw [hW64]; exact hw63.below p63.h
          have M64 := M63.below p63.h
          rw [← hW64] at M64
          rw [← hW64]
          replace HBJ2 := hid_bl HBJ2 p63.h
          rw [← hW64] at HBJ2
          clear hW64
          clear p63
          have z64_0 := Mem.lt M64.1
          clear d1 d2 d0 e1 e2 hq
          have HB := Lib.hid hB64
          go_wp2_with fail
          go_roundw
          case rel => exact ⟨j + 1, by omega, by go_num, HBJ2⟩
          case measure => simp [intOf]; omega
        · skip
          have hjm2 : j = m := by omega
          have HB := Lib.hid (And.intro hB60 HBJ)
          go_wp2_with fail
          go_loopw [13] (fun vq wr => ∃ q : Nat, q ≤ k ∧ vq = .int .i64 q ∧ Hid (Below w60.heap.size w60 wr)) (fun vq _ => k - (intOf vq).toNat)
          case atStart => exact ⟨0, by omega, rfl, Lib.hid (Below.refl _ _)⟩
          case round =>
            obtain ⟨q, hqk, rfl, HBQ⟩ := hrel
            obtain ⟨w70, rfl⟩ : ∃ x, x = wr := ⟨_, rfl⟩
            have hB70 : Below w.heap.size w w70 := below_then HB.out.1 HBQ.out
            have hw70 := hw0.below hB70
            have M70 := Mem.nil w70
            by_cases hqt : q < k
            · have hql : q < L.length := by have := HN1.out; omega
              obtain ⟨⟨b1, b2⟩, hy⟩ : ∃ x, L[q]? = some x := ⟨_, List.getElem?_eq_getElem hql⟩
              have HLA := HST1.out.2.2.out.below (below_then (below_then HBL.out.1.out HBJ.out) HBQ.out)
              obtain ⟨g', e1, hg, hcap, ck1, ck2⟩ := HLA.get HX.out
              cases e1
              obtain ⟨g', e1, _, _, ck3, ck4⟩ := HLA.get hy
              cases e1
              have hne : labB b1 b2 a1 a2 = false := by
                cases hc : labB b1 b2 a1 a2 with
                | false => rfl
                | true =>
                  obtain ⟨rfl, rfl⟩ := (labB_iff _ _ _ _).1 hc
                  have h1 := List.pairwise_iff_getElem.1 (List.nodup_iff_pairwise_ne.1 HN.out.1) q k hql (by have := HN1.out; omega) hqt
                  rw [List.getElem?_eq_getElem hql] at hy
                  have h2 := HX.out
                  rw [List.getElem?_eq_getElem (by have := HN1.out; omega)] at h2
                  exact absurd ((Option.some.inj hy).trans (Option.some.inj h2).symm) h1
              have hq : ∀ w, (binOp .eql 25 (.agg #[.string b1, .string b2]) (.agg #[.string a1, .string a2])).run Tryz.prog w = .ok (.bool false) w := fun w => by rw [eql_lab, hne]
              have d1 := fun p : After w70 => (p.h.cell (p := ⟨g, k * 2, none⟩) hg).trans ck1
              have d2 := fun p : After w70 => (p.h.cell (p := ⟨g, k * 2 + 1, none⟩) hg).trans ck2
              have d3 := fun p : After w70 => (p.h.cell (p := ⟨g, q * 2, none⟩) hg).trans ck3
              have d4 := fun p : After w70 => (p.h.cell (p := ⟨g, q * 2 + 1, none⟩) hg).trans ck4
              have pq0 : (0 : Int) ≤ (q : Int) := by omega
              have pqn : (q : Int) < (n1 : Int) := by omega
              have pqk : (q : Int) < (k : Int) := by omega
              have pq1 : ((q : Int)).toNat = q := by omega
              clear hql hy HLA hcap ck1 ck2 ck3 ck4 hne
              go_upto_region 22 with (fail)
              refine wp_region_after (by kernel_rfl) (by kernel_rfl) ?_
              repeat (go_big_quiet_step (((fail))))
              refine wpQuiet_nil ?_
              rintro _ ⟨p70, rfl⟩
              obtain ⟨w71, hW71⟩ : ∃ x, x = p70.world := ⟨_, rfl⟩
              have hB71 : Below w.heap.size w w71 := by rw [hW71]; exact below_then hB70 p70.h
              have hw71 : Laid w71 := by rw [hW71]; exact hw70.below p70.h
              have M71 := M70.below p70.h
              rw [← hW71] at M71
              rw [← hW71]
              replace HBQ := hid_bl HBQ p70.h
              rw [← hW71] at HBQ
              clear hW71
              clear p70
              clear d1 d2 d3 d4 hq
              have HB7 := Lib.hid hB71
              go_wp2_with fail
              go_roundw
              case rel => exact ⟨q + 1, by omega, by go_num, HBQ⟩
              case measure => simp [intOf]; omega
            · have pqk : ¬ (q : Int) < (k : Int) := by omega
              have HB7 := Lib.hid hB70
              have HBE := Lib.hid (below_then (below_then HBL.out.1.out HBJ.out) HBQ.out)
              have pm0 : ¬ (m : Int) = 0 := by omega
              go_wp2_with fail
              go_roundw
              case rel => exact ⟨k + 1, by omega, by go_num, by rw [HSUM.out], HBE⟩
              case measure => simp [intOf]; omega
    · skip
      have pkn : ¬ (k : Int) < (n1 : Int) := by omega
      have HO : Hid (One w.heap.size (fun _ => False) w50 p S0) := Lib.hid (HST1.out.2.1.out.below HBR.out)
      have hcN : c = N0 := by
        have hk : k = L.length := by have := HN1.out; omega
        have := HC.out
        rw [hk, List.take_length, HSM.out, ← HN0.out] at this
        exact this
      subst hcN
      have HZ : Hid ((S0.length : Int) = (c : Int)) := Lib.hid (by rw [HN0.out])
      go_wp2_with fail
      refine Calls.named ?_
      intro W51 hW51
      have hB51_ : Below w.heap.size w W51 := by rw [hW51]; exact hB50
      have hw51_ : Laid W51 := by rw [hW51]; exact hw50
      have M51_ := Mem.nil W51
      have hS51 : Below w50.heap.size w50 W51 := by rw [hW51]; exact (Below.refl _ _)
      have HO_ := hid_one HO hS51
      clear hS51 HO
      clear hW51
      refine (len_one _ _ p S0 _ HO_).mono ?_
      rw [HZ.out]
      rintro e w51 ⟨rfl, hb51⟩
      have HO := hid_one HO_ hb51
      clear HO_
      have hB51 := below_then hB51_ hb51
      have hw51 := hw51_.below hb51
      have M51 := M51_.below hb51
      clear M51_ hB51_ hb51 hw51_
      go_wp2_with fail
      go_ret
      exact ⟨rfl, hB51⟩
theorem storeLists_walk (v : Value) (l : List Ac) (w : World) (hl : AcAt w v l) (hw : Laid w) :
    Calls Tryz.prog 4 #[v] w fun e w' => e = .returned (.bool true) ∧ Below w.heap.size w w' :=
  storeLists_raw v l w hl hw
end Go.Proofs.YtlkgcidhhngfeaaGreatDoor
