/- asm.Parse. -/
import Derived.Test.YtiggallcoocdaaaGreatDoorZ7
import Derived.Test.YtiggallcoocdaaaGreatDoorZ6
import Derived.Test.YtiggallcoocdaaaGreatDoorCnfP
namespace Go.Proofs.YtiggallcoocdaaaGreatDoor
open Go.RowKit
theorem split_lib (s : ByteArray) (w : World) (hs : s.size < 4294967281) (hw : LaidI w) :
    Calls Tryz.prog 17 #[.string s, .string ⟨#[10]⟩] w fun e w' => e = .returned (.slice (some ⟨w.heap.size, 0, none⟩) (piecesB 10 s).length (piecesB 10 s).length) ∧ w' = w.alloc (.cells ((piecesB 10 s).map Value.string).toArray 9) := by
  obtain ⟨m, hm⟩ := hw.len
  have hb : Lib.splitB ⟨#[10]⟩ 0 (Lib.countB s ⟨#[10]⟩) s = piecesB 10 s := by
    have h := splitB_pieces 10 s
    unfold piecesB
    rw [← h, List.map_map]
    conv => lhs; rw [← List.map_id (Lib.splitB ⟨#[10]⟩ 0 (Lib.countB s ⟨#[10]⟩) s)]
    rfl
  have hl := Lib.splitB_all ⟨#[10]⟩ (by decide) 0 _ s rfl
  have h := Any.strings_Split { Tryz.laysM146 with } Tryz.laysM146.i9 s ⟨#[10]⟩ m w hs hm (by decide)
  rw [← hl, hb] at h
  exact h
theorem FnOwn.low {w : World} {B B' : Nat} {v : Value} {fs : List Fn} (h : FnOwn w B' v fs) (hb : B ≤ B') : FnOwn w B v fs := by
  obtain ⟨rows, h1, h2, h3⟩ := h
  refine ⟨rows, h1, owns_low h2 hb, fun i f hi => ?_⟩
  obtain ⟨ao, cap, h4, h5⟩ := h3 i f hi
  exact ⟨ao, cap, h4, owns_low h5 hb⟩
/-- what Parse hands back: a program in memory of its own, a line, an error -/
structure ParA (w : World) (r : Im × Nat × Int) (e : Ending) (w' : World) : Prop where
  hb : Below w.heap.size w w'
  ex : ∃ cv fv, e = .returned (.tuple #[.agg #[cv, fv], .int .i64 (r.2.1 : Nat), .int .i64 r.2.2]) ∧ w'.ownsRow w.heap.size 50 5 cv r.1.cs.length (r.1.cs.map vrow).flatten ∧ FnOwn w' w.heap.size fv r.1.fs
theorem ParA.none {w w' : World} (k : Nat) (E : Int) (hb : Below w.heap.size w w') : ParA w (im0, k, E) (.returned (.tuple #[.agg #[.slice none 0 0, .slice none 0 0], .int .i64 (k : Nat), .int .i64 E])) w' :=
  ⟨hb, _, _, rfl, ⟨rfl, .inl ⟨rfl, rfl⟩⟩, FnOwn.nil _ _⟩
theorem kept_below {n0 N b : Nat} {w W0 W : World} (h : Below n0 w W0) (k : Kept2 N b b W0 W) (hb : n0 ≤ b) (hN : n0 ≤ N) : Below n0 w W :=
  ⟨k.os.trans h.os, k.tape.trans h.tape, k.output.trans h.output, Nat.le_trans h.size k.size, fun i hi => (k.block i (by omega) (by omega) (by omega)).trans (h.block i hi)⟩
set_option maxRecDepth 100000 in
set_option maxHeartbeats 16000000 in
theorem aparse_any (s : ByteArray) (w : World) (hs : s.size ≤ 500000000) (hw : LaidI w) :
    Calls Tryz.prog 9 #[.string s] w (ParA w (parseA s.data.toList)) := by
  obtain ⟨LS, hLS⟩ : ∃ LS, LS = pieces 10 s.data.toList := ⟨_, rfl⟩
  obtain ⟨LB, hLB⟩ : ∃ LB, LB = piecesB 10 s := ⟨_, rfl⟩
  have hsplit := split_lib s
  rw [← hLB] at hsplit
  have hlen : LB.length = LS.length := by rw [hLB, hLS]; exact List.length_map _
  have hline : ∀ k (h : k < LB.length) (h2 : k < LS.length), LB[k].data.toList = LS[k] := fun k h h2 => by
    subst hLB
    subst hLS
    simp [piecesB]
  have hsize : ∀ k (h : k < LB.length), LB[k].size ≤ s.size := fun k h => piecesB_le (p := 10) (by rw [← hLB]; exact List.getElem_mem h)
  have hcount : LS.length ≤ s.size + 1 := by
    have h1 : ∀ l : List UInt8, (pieces 10 l).length ≤ l.length + 1 := by
      intro l
      induction l with
      | nil => simp [pieces]
      | cons c l ih =>
        by_cases hc : c = 10
        · subst hc
          rw [pieces_at]
          simp only [List.length_cons]
          omega
        · obtain ⟨a, t, h2, h3⟩ := pieces_cons hc l
          rw [h3]
          rw [h2] at ih
          simp only [List.length_cons] at ih ⊢
          omega
    have h2 : s.data.toList.length = s.size := Array.length_toList
    rw [hLS, ← h2]
    exact h1 _
  obtain ⟨PA, hPA⟩ : ∃ PA, PA = parseA s.data.toList := ⟨_, rfl⟩
  have HPA : Hid (PA = match runL im0 LS with
      | none => (im0, badL im0 LS + 1, 4)
      | some im => if im.check = 0 then (im, 0, 0) else (im0, 0, im.check)) := Lib.hid (by rw [hPA, hLS]; rfl)
  rw [← hPA]
  obtain ⟨n, hn⟩ : ∃ n, n = LB.length := ⟨_, rfl⟩
  rw [← hn] at hsplit
  have HLN := Lib.hid hlen
  have HLI := Lib.hid hline
  have HSZ := Lib.hid hsize
  have HCN := Lib.hid hcount
  have HN := Lib.hid hn
  have hn31 : n ≤ 500000001 := by omega
  clear hLS hLB hPA hlen hline hsize hcount hn
  go_enter Tryz.func9, Tryz.ntmps9
  go_wp2_with fail
  refine (words_any _).mono ?_
  rintro e _ ⟨rfl, rfl⟩
  go_wp2_with fail
  have hB3 := below_al (below_al (below_al (Below.refl w.heap.size w) (.cells #[.slice none 0 0, .slice none 0 0] 27)) (.cells #[.slice none 0 0, .slice none 0 0] 54)) (.map wordsM 3)
  refine (hsplit _ (by omega) (hw.below hB3)).mono ?_
  rintro e _ ⟨rfl, rfl⟩
  have M0 := ((((Mem.nil w).new (.cells #[.slice none 0 0, .slice none 0 0] 27)).new (.cells #[.slice none 0 0, .slice none 0 0] 54)).new (.map wordsM 3)).new (.cells (LB.map Value.string).toArray 9)
  simp only [World.size_alloc] at M0
  have hB4 := below_al hB3 (.cells (LB.map Value.string).toArray 9)
  obtain ⟨W0, hW0⟩ : ∃ W0, W0 = (((w.alloc (.cells #[.slice none 0 0, .slice none 0 0] 27)).alloc (.cells #[.slice none 0 0, .slice none 0 0] 54)).alloc (.map wordsM 3)).alloc (.cells (LB.map Value.string).toArray 9) := ⟨_, rfl⟩
  have hz0 : W0.heap.size = w.heap.size + 4 := by rw [hW0]; simp
  rw [← hW0] at M0 hB4
  simp only [World.size_alloc]
  rw [← hW0]
  have HB0 := Lib.hid hB4
  have HML := Lib.hid M0.1
  have HMM := Lib.hid M0.2.1
  have HMR := Lib.hid M0.2.2.1
  have HMI := Lib.hid M0.2.2.2.1
  have HRD0 := Lib.hid (RD.fresh (b := w.heap.size + 1) (N := w.heap.size + 4) M0.2.2.1 (by omega) (by omega))
  clear hW0 M0 hB3 hB4 hsplit
  go_wp2_with fail
  go_loopw [7, 8, 9, 10, 11, 12, 13, 19] (fun _ _ _ _ _ _ _ i wr => ∃ (k : Nat) (im : Im), k ≤ n ∧ i = .int .i64 k ∧ Hid (runL im0 (LS.take k) = some im) ∧ Hid (RD (w.heap.size + 1) (w.heap.size + 4) im wr) ∧ Hid (Kept2 (w.heap.size + 4) (w.heap.size + 1) (w.heap.size + 1) W0 wr)) (fun _ _ _ _ _ _ _ i _ => n - (intOf i).toNat)
  case atStart => exact ⟨0, im0, by omega, rfl, Lib.hid rfl, HRD0, Lib.hid (Kept2.of_below (Below.refl _ _) (by omega))⟩
  case round =>
    clear HRD0
    obtain ⟨k, im, hk, rfl, HRN, HRD, HK⟩ := hrel
    have hb := kept_below HB0.out HK.out (by omega) (by omega)
    have hwr := hw.below hb
    have hmi := (HK.out.block w.heap.size (by omega) (by omega) (by omega)).trans HMI.out
    have r0 := Mem.cell (v := .slice none 0 0) hmi 0 rfl
    have r1 := Mem.cell (v := .slice none 0 0) hmi 1 rfl
    have rf0 := Mem.free hmi 0
    have rf1 := Mem.free hmi 1
    have HB := Lib.hid hb
    have HMI1 := Lib.hid hmi
    clear hb hmi
    by_cases hlt : k < n
    · have g1 : (0 : Int) ≤ (k : Int) := by omega
      have g2 : (k : Int) < (n : Int) := by omega
      have e1 : IntKind.i64.wrap ((k : Int) + 1) = ((k + 1 : Nat) : Int) := by rw [IntWalk.i64_in _ (by omega)]; omega
      have hkb : k < LB.length := by rw [← HN.out]; exact hlt
      have hkl : k < LS.length := by rw [← HLN.out]; exact hkb
      have hml := (HK.out.block (w.heap.size + 1 + 1 + 1) (by omega) (by omega) (by omega)).trans HML.out
      have hmm := (HK.out.block (w.heap.size + 1 + 1) (by omega) (by omega) (by omega)).trans HMM.out
      obtain ⟨x, hx⟩ : ∃ x, x = LB[k] := ⟨_, rfl⟩
      have cl : wr.cell? ⟨w.heap.size + 1 + 1 + 1, k, none⟩ = some (.string x) := Mem.cell hml k (by rw [hx]; simp [hkb])
      have hxs : x.size ≤ 500000000 := by rw [hx]; exact Nat.le_trans (HSZ.out k hkb) hs
      have hxd : x.data.toList = LS[k] := by rw [hx]; exact HLI.out k hkb hkl
      have hsz : szI im k := by
        have h := runL_sz HRN.out sz0
        rwa [Nat.zero_add, List.length_take, Nat.min_eq_left (by omega)] at h
      have HNX := Lib.hid (runL_next HRN.out hkl)
      have HBD := Lib.hid (fun h => runL_bad HRN.out hkl h)
      rw [← hxd] at HNX HBD
      have HMM1 := Lib.hid hmm
      have HSI := Lib.hid hsz
      have hx0 : x.toList = x.data.toList := ByteArray.toList_eq _
      clear hx hml hmm hkb hkl hsz hxd
      cases hc : x.data.toList with
      | nil =>
        have HNX2 : Hid (runL im0 (LS.take (k + 1)) = some im) := Lib.hid (by rw [HNX.out, hc]; rfl)
        have e0 : x.toList.isEmpty = true := by rw [hx0, hc]; rfl
        clear HNX HBD hc hx0
        go_wp2_with fail
        go_roundw
        case rel => exact ⟨k + 1, im, by omega, by go_num, HNX2, HRD, HK⟩
        case measure => simp [intOf]; omega
      | cons c t =>
        have e0 : x.toList.isEmpty = false := by rw [hx0, hc]; rfl
        have hsz1 : 0 < x.size := by
          have h2 : x.data.toList.length = x.size := Array.length_toList
          rw [hc, List.length_cons] at h2
          omega
        have hix : ∀ W, (Instr.index 9 (.string x) (.int .i64 0)).run Tryz.prog W = .ok (.int .u8 (c.toNat : Int)) W := fun W => by
          have h := index_strF Tryz.underlying9 x rfl 0 hsz1 W
          rw [hc] at h
          exact h
        by_cases h35 : c = 35
        · have HNX2 : Hid (runL im0 (LS.take (k + 1)) = some im) := Lib.hid (by rw [HNX.out, hc, h35]; rfl)
          have e2 : ((c.toNat : Int) == 35) = true := by rw [h35]; rfl
          have e3 : (c.toNat : Int) = 35 := by rw [h35]; rfl
          clear HNX HBD hc hx0 h35 hsz1
          go_wp2_with fail
          go_roundw
          case rel => exact ⟨k + 1, im, by omega, by go_num, HNX2, HRD, HK⟩
          case measure => simp [intOf]; omega
        · have e3 : ¬ (c.toNat : Int) = 35 := fun e => h35 (UInt8.toNat_inj.1 (by show c.toNat = 35; omega))
          have e2 : ((c.toNat : Int) == 35) = false := by simpa using e3
          have hcut := fun W hW => cut_lib 32 x W (by omega) hW
          have hst : stepL im x.data.toList = match cutP 32 x.data.toList with
              | some (a, r) => if a = sInt then numI im r else if a = sMark then markI im r else if a = sFun then funI im r else opI im x.data.toList
              | none => opI im x.data.toList := by
            conv => lhs; unfold stepL
            rw [if_neg (by rw [hc]; show ¬ (c == 35) = true; simpa using h35)]
            rfl
          have hop := fun W h1 h2 => rop_any (w.heap.size + 1) (w.heap.size + 4) im x W h1 h2 (by omega) (Nat.le_trans HSI.out.2.1 (by omega)) (fun f hf => Nat.le_trans (HSI.out.2.2 f hf) (by omega))
          obtain ⟨R, hR⟩ : ∃ R, R = stepL im x.data.toList := ⟨_, rfl⟩
          rw [← hR] at HNX HBD hst
          clear hR hc hx0 h35 hsz1 HSZ HLI HRN
          have HRF : Hid (∀ W, Below wr.heap.size wr W → RD (w.heap.size + 1) (w.heap.size + 4) im W ∧ LaidI W ∧ Kept2 (w.heap.size + 4) (w.heap.size + 1) (w.heap.size + 1) W0 W ∧ W.heap[w.heap.size + 1 + 1]? = some (.map wordsM 3)) := Lib.hid (fun W h => ⟨HRD.out.below h, hwr.below h, HK.out.trans (HRD.out.kept h), (h.block _ (Mem.lt HMM1.out)).trans HMM1.out⟩)
          cases R with
          | none =>
            have HEND : Hid (PA = (im0, k + 1, 4)) := Lib.hid (by obtain ⟨h1, h2⟩ := HBD.out rfl; rw [HPA.out, h1, h2])
            clear HBD HPA
            cases hcp : cutP 32 x.data.toList with
            | none =>
              rw [hcp] at hst hcut
              simp only at hst
              simp only [Option.getD_none, Option.isSome_none] at hcut
              rw [← hst] at hop
              obtain ⟨A, hA⟩ : ∃ A : ByteArray, A = ⟨x.data.toList.toArray⟩ := ⟨_, rfl⟩
              rw [← hA] at hcut
              cases hwf : wordF A.data.toList with
              | none =>
                obtain ⟨z, hz⟩ := look_no hwf
                clear hst hA hcp
                go_wp2_with fail
                refine (hcut _ hwr).mono ?_
                rintro e w2 ⟨rfl, hb2⟩
                have hlk := hz (HRF.out _ hb2).2.2.2
                go_wp2_with fail
                refine (hop _ (HRF.out _ hb2).1 (HRF.out _ hb2).2.1).mono ?_
                rintro e w3 ⟨rfl, hR3, hK3⟩
                have hk3 := (HRF.out _ hb2).2.2.1.trans hK3
                have hmi3 := (hk3.block w.heap.size (by omega) (by omega) (by omega)).trans HMI.out
                have u0 := Mem.cell (v := .slice none 0 0) hmi3 0 rfl
                have u1 := Mem.cell (v := .slice none 0 0) hmi3 1 rfl
                have uf0 := Mem.free hmi3 0
                have uf1 := Mem.free hmi3 1
                have hBf := kept_below HB0.out hk3 (by omega) (by omega)
                have HBf := Lib.hid ((hBf.setCell (p := ⟨w.heap.size, 0, none⟩) (by simp) (.slice none 0 0)).setCell (p := ⟨w.heap.size, 1, none⟩) (by simp) (.slice none 0 0))
                have hmi5 := setCell_block (setCell_block hmi3 (i := 0) (.slice none 0 0)) (i := 1) (.slice none 0 0)
                have v0 := Mem.cell (v := .slice none 0 0) hmi5 0 rfl
                have v1 := Mem.cell (v := .slice none 0 0) hmi5 1 rfl
                clear hR3 hK3 hb2 hk3 hmi3 hBf hmi5
                go_wp2_with fail
                refine bodyPost_ret (v := .tuple #[.agg #[.slice none 0 0, .slice none 0 0], .int .i64 ((k + 1 : Nat) : Int), .int .i64 4]) (by simp [results, Tryz.results9, go_sem, v0, v1]) rfl ?_
                rw [HEND.out]
                exact ParA.none _ _ HBf.out
              | some f =>
                clear hst hA hcp
                go_wp2_with fail
                refine (hcut _ hwr).mono ?_
                rintro e w2 ⟨rfl, hb2⟩
                have hlk := look_yes hwf (HRF.out _ hb2).2.2.2
                go_wp2_with fail
                refine (hop _ (HRF.out _ hb2).1 (HRF.out _ hb2).2.1).mono ?_
                rintro e w3 ⟨rfl, hR3, hK3⟩
                have hk3 := (HRF.out _ hb2).2.2.1.trans hK3
                have hmi3 := (hk3.block w.heap.size (by omega) (by omega) (by omega)).trans HMI.out
                have u0 := Mem.cell (v := .slice none 0 0) hmi3 0 rfl
                have u1 := Mem.cell (v := .slice none 0 0) hmi3 1 rfl
                have uf0 := Mem.free hmi3 0
                have uf1 := Mem.free hmi3 1
                have hBf := kept_below HB0.out hk3 (by omega) (by omega)
                have HBf := Lib.hid ((hBf.setCell (p := ⟨w.heap.size, 0, none⟩) (by simp) (.slice none 0 0)).setCell (p := ⟨w.heap.size, 1, none⟩) (by simp) (.slice none 0 0))
                have hmi5 := setCell_block (setCell_block hmi3 (i := 0) (.slice none 0 0)) (i := 1) (.slice none 0 0)
                have v0 := Mem.cell (v := .slice none 0 0) hmi5 0 rfl
                have v1 := Mem.cell (v := .slice none 0 0) hmi5 1 rfl
                clear hR3 hK3 hb2 hk3 hmi3 hBf hmi5
                go_wp2_with fail
                refine bodyPost_ret (v := .tuple #[.agg #[.slice none 0 0, .slice none 0 0], .int .i64 ((k + 1 : Nat) : Int), .int .i64 4]) (by simp [results, Tryz.results9, go_sem, v0, v1]) rfl ?_
                rw [HEND.out]
                exact ParA.none _ _ HBf.out
            | some ar =>
              obtain ⟨a, r⟩ := ar
              have hrl : r.length ≤ 500000000 := by
                have h1 := congrArg List.length (cutP_some hcp).1
                have h2 : x.data.toList.length = x.size := Array.length_toList
                rw [h2, List.length_append, List.length_cons] at h1
                omega
              rw [hcp] at hst hcut
              simp only at hst
              simp only [Option.getD_some, Option.isSome_some] at hcut
              obtain ⟨A, hA⟩ : ∃ A : ByteArray, A = ⟨a.toArray⟩ := ⟨_, rfl⟩
              obtain ⟨B, hB⟩ : ∃ B : ByteArray, B = ⟨r.toArray⟩ := ⟨_, rfl⟩
              rw [← hA, ← hB] at hcut
              have hAd : A.data.toList = a := by rw [hA]
              have hBd : B.data.toList = r := by rw [hB]
              have hBs : B.size ≤ 500000000 := by rw [hB, show (⟨r.toArray⟩ : ByteArray).size = r.length from List.size_toArray]; exact hrl
              rw [← hAd, ← hBd] at hst
              clear hA hB hAd hBd hcp hrl
              by_cases hnumber : A.data.toList = sInt
              · rw [if_pos hnumber] at hst
                have hfn := fun W h1 h2 => rnum_any (w.heap.size + 1) (w.heap.size + 4) im B W h1 h2 (by omega) (Nat.le_trans HSI.out.1 (by omega))
                rw [← hst] at hfn
                have hwf : wordF A.data.toList = some 36 := by unfold wordF; rw [if_pos hnumber]
                clear hst hop hnumber
                go_wp2_with fail
                refine (hcut _ hwr).mono ?_
                rintro e w2 ⟨rfl, hb2⟩
                have hlk := look_yes hwf (HRF.out _ hb2).2.2.2
                go_wp2_with fail
                refine (hfn _ (HRF.out _ hb2).1 (HRF.out _ hb2).2.1).mono ?_
                rintro e w3 ⟨rfl, hR3, hK3⟩
                have hk3 := (HRF.out _ hb2).2.2.1.trans hK3
                have hmi3 := (hk3.block w.heap.size (by omega) (by omega) (by omega)).trans HMI.out
                have u0 := Mem.cell (v := .slice none 0 0) hmi3 0 rfl
                have u1 := Mem.cell (v := .slice none 0 0) hmi3 1 rfl
                have uf0 := Mem.free hmi3 0
                have uf1 := Mem.free hmi3 1
                have hBf := kept_below HB0.out hk3 (by omega) (by omega)
                have HBf := Lib.hid ((hBf.setCell (p := ⟨w.heap.size, 0, none⟩) (by simp) (.slice none 0 0)).setCell (p := ⟨w.heap.size, 1, none⟩) (by simp) (.slice none 0 0))
                have hmi5 := setCell_block (setCell_block hmi3 (i := 0) (.slice none 0 0)) (i := 1) (.slice none 0 0)
                have v0 := Mem.cell (v := .slice none 0 0) hmi5 0 rfl
                have v1 := Mem.cell (v := .slice none 0 0) hmi5 1 rfl
                clear hR3 hK3 hb2 hk3 hmi3 hBf hmi5
                go_wp2_with fail
                refine bodyPost_ret (v := .tuple #[.agg #[.slice none 0 0, .slice none 0 0], .int .i64 ((k + 1 : Nat) : Int), .int .i64 4]) (by simp [results, Tryz.results9, go_sem, v0, v1]) rfl ?_
                rw [HEND.out]
                exact ParA.none _ _ HBf.out
              by_cases hmark : A.data.toList = sMark
              · rw [if_neg hnumber, if_pos hmark] at hst
                have hfn := fun W h1 h2 => rmark_any cparse_any (w.heap.size + 1) (w.heap.size + 4) im B W h1 h2 (by omega) (Nat.le_trans HSI.out.1 (by omega))
                rw [← hst] at hfn
                have hwf : wordF A.data.toList = some 37 := by unfold wordF; rw [if_neg hnumber, if_pos hmark]
                clear hst hop hnumber hmark
                go_wp2_with fail
                refine (hcut _ hwr).mono ?_
                rintro e w2 ⟨rfl, hb2⟩
                have hlk := look_yes hwf (HRF.out _ hb2).2.2.2
                go_wp2_with fail
                refine (hfn _ (HRF.out _ hb2).1 (HRF.out _ hb2).2.1).mono ?_
                rintro e w3 ⟨rfl, hR3, hK3⟩
                have hk3 := (HRF.out _ hb2).2.2.1.trans hK3
                have hmi3 := (hk3.block w.heap.size (by omega) (by omega) (by omega)).trans HMI.out
                have u0 := Mem.cell (v := .slice none 0 0) hmi3 0 rfl
                have u1 := Mem.cell (v := .slice none 0 0) hmi3 1 rfl
                have uf0 := Mem.free hmi3 0
                have uf1 := Mem.free hmi3 1
                have hBf := kept_below HB0.out hk3 (by omega) (by omega)
                have HBf := Lib.hid ((hBf.setCell (p := ⟨w.heap.size, 0, none⟩) (by simp) (.slice none 0 0)).setCell (p := ⟨w.heap.size, 1, none⟩) (by simp) (.slice none 0 0))
                have hmi5 := setCell_block (setCell_block hmi3 (i := 0) (.slice none 0 0)) (i := 1) (.slice none 0 0)
                have v0 := Mem.cell (v := .slice none 0 0) hmi5 0 rfl
                have v1 := Mem.cell (v := .slice none 0 0) hmi5 1 rfl
                clear hR3 hK3 hb2 hk3 hmi3 hBf hmi5
                go_wp2_with fail
                refine bodyPost_ret (v := .tuple #[.agg #[.slice none 0 0, .slice none 0 0], .int .i64 ((k + 1 : Nat) : Int), .int .i64 4]) (by simp [results, Tryz.results9, go_sem, v0, v1]) rfl ?_
                rw [HEND.out]
                exact ParA.none _ _ HBf.out
              by_cases hfun : A.data.toList = sFun
              · rw [if_neg hnumber, if_neg hmark, if_pos hfun] at hst
                have hfn := fun W h1 h2 => rfun_any (w.heap.size + 1) (w.heap.size + 4) im B W h1 h2 (by omega) (Nat.le_trans HSI.out.2.1 (by omega))
                rw [← hst] at hfn
                have hwf : wordF A.data.toList = some 38 := by unfold wordF; rw [if_neg hnumber, if_neg hmark, if_pos hfun]
                clear hst hop hnumber hmark hfun
                go_wp2_with fail
                refine (hcut _ hwr).mono ?_
                rintro e w2 ⟨rfl, hb2⟩
                have hlk := look_yes hwf (HRF.out _ hb2).2.2.2
                go_wp2_with fail
                refine (hfn _ (HRF.out _ hb2).1 (HRF.out _ hb2).2.1).mono ?_
                rintro e w3 ⟨rfl, hR3, hK3⟩
                have hk3 := (HRF.out _ hb2).2.2.1.trans hK3
                have hmi3 := (hk3.block w.heap.size (by omega) (by omega) (by omega)).trans HMI.out
                have u0 := Mem.cell (v := .slice none 0 0) hmi3 0 rfl
                have u1 := Mem.cell (v := .slice none 0 0) hmi3 1 rfl
                have uf0 := Mem.free hmi3 0
                have uf1 := Mem.free hmi3 1
                have hBf := kept_below HB0.out hk3 (by omega) (by omega)
                have HBf := Lib.hid ((hBf.setCell (p := ⟨w.heap.size, 0, none⟩) (by simp) (.slice none 0 0)).setCell (p := ⟨w.heap.size, 1, none⟩) (by simp) (.slice none 0 0))
                have hmi5 := setCell_block (setCell_block hmi3 (i := 0) (.slice none 0 0)) (i := 1) (.slice none 0 0)
                have v0 := Mem.cell (v := .slice none 0 0) hmi5 0 rfl
                have v1 := Mem.cell (v := .slice none 0 0) hmi5 1 rfl
                clear hR3 hK3 hb2 hk3 hmi3 hBf hmi5
                go_wp2_with fail
                refine bodyPost_ret (v := .tuple #[.agg #[.slice none 0 0, .slice none 0 0], .int .i64 ((k + 1 : Nat) : Int), .int .i64 4]) (by simp [results, Tryz.results9, go_sem, v0, v1]) rfl ?_
                rw [HEND.out]
                exact ParA.none _ _ HBf.out
              rw [if_neg hnumber, if_neg hmark, if_neg hfun] at hst
              rw [← hst] at hop
              obtain ⟨z, hz⟩ := look_no (s := A) (by unfold wordF; rw [if_neg hnumber, if_neg hmark, if_neg hfun])
              clear hst hnumber hmark hfun
              go_wp2_with fail
              refine (hcut _ hwr).mono ?_
              rintro e w2 ⟨rfl, hb2⟩
              have hlk := hz (HRF.out _ hb2).2.2.2
              go_wp2_with fail
              refine (hop _ (HRF.out _ hb2).1 (HRF.out _ hb2).2.1).mono ?_
              rintro e w3 ⟨rfl, hR3, hK3⟩
              have hk3 := (HRF.out _ hb2).2.2.1.trans hK3
              have hmi3 := (hk3.block w.heap.size (by omega) (by omega) (by omega)).trans HMI.out
              have u0 := Mem.cell (v := .slice none 0 0) hmi3 0 rfl
              have u1 := Mem.cell (v := .slice none 0 0) hmi3 1 rfl
              have uf0 := Mem.free hmi3 0
              have uf1 := Mem.free hmi3 1
              have hBf := kept_below HB0.out hk3 (by omega) (by omega)
              have HBf := Lib.hid ((hBf.setCell (p := ⟨w.heap.size, 0, none⟩) (by simp) (.slice none 0 0)).setCell (p := ⟨w.heap.size, 1, none⟩) (by simp) (.slice none 0 0))
              have hmi5 := setCell_block (setCell_block hmi3 (i := 0) (.slice none 0 0)) (i := 1) (.slice none 0 0)
              have v0 := Mem.cell (v := .slice none 0 0) hmi5 0 rfl
              have v1 := Mem.cell (v := .slice none 0 0) hmi5 1 rfl
              clear hR3 hK3 hb2 hk3 hmi3 hBf hmi5
              go_wp2_with fail
              refine bodyPost_ret (v := .tuple #[.agg #[.slice none 0 0, .slice none 0 0], .int .i64 ((k + 1 : Nat) : Int), .int .i64 4]) (by simp [results, Tryz.results9, go_sem, v0, v1]) rfl ?_
              rw [HEND.out]
              exact ParA.none _ _ HBf.out
          | some im2 =>
            clear HBD HPA
            cases hcp : cutP 32 x.data.toList with
            | none =>
              rw [hcp] at hst hcut
              simp only at hst
              simp only [Option.getD_none, Option.isSome_none] at hcut
              rw [← hst] at hop
              obtain ⟨A, hA⟩ : ∃ A : ByteArray, A = ⟨x.data.toList.toArray⟩ := ⟨_, rfl⟩
              rw [← hA] at hcut
              cases hwf : wordF A.data.toList with
              | none =>
                obtain ⟨z, hz⟩ := look_no hwf
                clear hst hA hcp
                go_wp2_with fail
                refine (hcut _ hwr).mono ?_
                rintro e w2 ⟨rfl, hb2⟩
                have hlk := hz (HRF.out _ hb2).2.2.2
                go_wp2_with fail
                refine (hop _ (HRF.out _ hb2).1 (HRF.out _ hb2).2.1).mono ?_
                rintro e w3 ⟨rfl, hR3, hK3⟩
                have HR3 := Lib.hid hR3
                have HK3 := Lib.hid ((HRF.out _ hb2).2.2.1.trans hK3)
                clear hR3 hK3 hb2
                go_wp2_with fail
                go_roundw
                case rel => exact ⟨k + 1, im2, by omega, by go_num, HNX, HR3, HK3⟩
                case measure => simp [intOf]; omega
              | some f =>
                clear hst hA hcp
                go_wp2_with fail
                refine (hcut _ hwr).mono ?_
                rintro e w2 ⟨rfl, hb2⟩
                have hlk := look_yes hwf (HRF.out _ hb2).2.2.2
                go_wp2_with fail
                refine (hop _ (HRF.out _ hb2).1 (HRF.out _ hb2).2.1).mono ?_
                rintro e w3 ⟨rfl, hR3, hK3⟩
                have HR3 := Lib.hid hR3
                have HK3 := Lib.hid ((HRF.out _ hb2).2.2.1.trans hK3)
                clear hR3 hK3 hb2
                go_wp2_with fail
                go_roundw
                case rel => exact ⟨k + 1, im2, by omega, by go_num, HNX, HR3, HK3⟩
                case measure => simp [intOf]; omega
            | some ar =>
              obtain ⟨a, r⟩ := ar
              have hrl : r.length ≤ 500000000 := by
                have h1 := congrArg List.length (cutP_some hcp).1
                have h2 : x.data.toList.length = x.size := Array.length_toList
                rw [h2, List.length_append, List.length_cons] at h1
                omega
              rw [hcp] at hst hcut
              simp only at hst
              simp only [Option.getD_some, Option.isSome_some] at hcut
              obtain ⟨A, hA⟩ : ∃ A : ByteArray, A = ⟨a.toArray⟩ := ⟨_, rfl⟩
              obtain ⟨B, hB⟩ : ∃ B : ByteArray, B = ⟨r.toArray⟩ := ⟨_, rfl⟩
              rw [← hA, ← hB] at hcut
              have hAd : A.data.toList = a := by rw [hA]
              have hBd : B.data.toList = r := by rw [hB]
              have hBs : B.size ≤ 500000000 := by rw [hB, show (⟨r.toArray⟩ : ByteArray).size = r.length from List.size_toArray]; exact hrl
              rw [← hAd, ← hBd] at hst
              clear hA hB hAd hBd hcp hrl
              by_cases hnumber : A.data.toList = sInt
              · rw [if_pos hnumber] at hst
                have hfn := fun W h1 h2 => rnum_any (w.heap.size + 1) (w.heap.size + 4) im B W h1 h2 (by omega) (Nat.le_trans HSI.out.1 (by omega))
                rw [← hst] at hfn
                have hwf : wordF A.data.toList = some 36 := by unfold wordF; rw [if_pos hnumber]
                clear hst hop hnumber
                go_wp2_with fail
                refine (hcut _ hwr).mono ?_
                rintro e w2 ⟨rfl, hb2⟩
                have hlk := look_yes hwf (HRF.out _ hb2).2.2.2
                go_wp2_with fail
                refine (hfn _ (HRF.out _ hb2).1 (HRF.out _ hb2).2.1).mono ?_
                rintro e w3 ⟨rfl, hR3, hK3⟩
                have HR3 := Lib.hid hR3
                have HK3 := Lib.hid ((HRF.out _ hb2).2.2.1.trans hK3)
                clear hR3 hK3 hb2
                go_wp2_with fail
                go_roundw
                case rel => exact ⟨k + 1, im2, by omega, by go_num, HNX, HR3, HK3⟩
                case measure => simp [intOf]; omega
              by_cases hmark : A.data.toList = sMark
              · rw [if_neg hnumber, if_pos hmark] at hst
                have hfn := fun W h1 h2 => rmark_any cparse_any (w.heap.size + 1) (w.heap.size + 4) im B W h1 h2 (by omega) (Nat.le_trans HSI.out.1 (by omega))
                rw [← hst] at hfn
                have hwf : wordF A.data.toList = some 37 := by unfold wordF; rw [if_neg hnumber, if_pos hmark]
                clear hst hop hnumber hmark
                go_wp2_with fail
                refine (hcut _ hwr).mono ?_
                rintro e w2 ⟨rfl, hb2⟩
                have hlk := look_yes hwf (HRF.out _ hb2).2.2.2
                go_wp2_with fail
                refine (hfn _ (HRF.out _ hb2).1 (HRF.out _ hb2).2.1).mono ?_
                rintro e w3 ⟨rfl, hR3, hK3⟩
                have HR3 := Lib.hid hR3
                have HK3 := Lib.hid ((HRF.out _ hb2).2.2.1.trans hK3)
                clear hR3 hK3 hb2
                go_wp2_with fail
                go_roundw
                case rel => exact ⟨k + 1, im2, by omega, by go_num, HNX, HR3, HK3⟩
                case measure => simp [intOf]; omega
              by_cases hfun : A.data.toList = sFun
              · rw [if_neg hnumber, if_neg hmark, if_pos hfun] at hst
                have hfn := fun W h1 h2 => rfun_any (w.heap.size + 1) (w.heap.size + 4) im B W h1 h2 (by omega) (Nat.le_trans HSI.out.2.1 (by omega))
                rw [← hst] at hfn
                have hwf : wordF A.data.toList = some 38 := by unfold wordF; rw [if_neg hnumber, if_neg hmark, if_pos hfun]
                clear hst hop hnumber hmark hfun
                go_wp2_with fail
                refine (hcut _ hwr).mono ?_
                rintro e w2 ⟨rfl, hb2⟩
                have hlk := look_yes hwf (HRF.out _ hb2).2.2.2
                go_wp2_with fail
                refine (hfn _ (HRF.out _ hb2).1 (HRF.out _ hb2).2.1).mono ?_
                rintro e w3 ⟨rfl, hR3, hK3⟩
                have HR3 := Lib.hid hR3
                have HK3 := Lib.hid ((HRF.out _ hb2).2.2.1.trans hK3)
                clear hR3 hK3 hb2
                go_wp2_with fail
                go_roundw
                case rel => exact ⟨k + 1, im2, by omega, by go_num, HNX, HR3, HK3⟩
                case measure => simp [intOf]; omega
              rw [if_neg hnumber, if_neg hmark, if_neg hfun] at hst
              rw [← hst] at hop
              obtain ⟨z, hz⟩ := look_no (s := A) (by unfold wordF; rw [if_neg hnumber, if_neg hmark, if_neg hfun])
              clear hst hnumber hmark hfun
              go_wp2_with fail
              refine (hcut _ hwr).mono ?_
              rintro e w2 ⟨rfl, hb2⟩
              have hlk := hz (HRF.out _ hb2).2.2.2
              go_wp2_with fail
              refine (hop _ (HRF.out _ hb2).1 (HRF.out _ hb2).2.1).mono ?_
              rintro e w3 ⟨rfl, hR3, hK3⟩
              have HR3 := Lib.hid hR3
              have HK3 := Lib.hid ((HRF.out _ hb2).2.2.1.trans hK3)
              clear hR3 hK3 hb2
              go_wp2_with fail
              go_roundw
              case rel => exact ⟨k + 1, im2, by omega, by go_num, HNX, HR3, HK3⟩
              case measure => simp [intOf]; omega
    · have hge : (n : Int) ≤ (k : Int) := by omega
      have hkn : k = n := by omega
      have hrun : runL im0 LS = some im := by
        have h := HRN.out
        rwa [List.take_of_length_le (by have := HLN.out; have := HN.out; omega)] at h
      have hE : PA = if im.check = 0 then (im, 0, 0) else (im0, 0, im.check) := by rw [HPA.out, hrun]
      have hright := runL_right hrun (fun v hv => by simp [im0] at hv)
      obtain ⟨cv, fv, hbk, hown, hfn⟩ := HRD.out.ex
      obtain ⟨co, cp, rfl⟩ := owns_form hown
      obtain ⟨fo, cq, rfl⟩ := hfn.slice
      have c0 := Mem.cell (v := .slice co im.cs.length cp) hbk 0 rfl
      have c1 := Mem.cell (v := .slice fo im.fs.length cq) hbk 1 rfl
      have hck := fun W (h : Below wr.heap.size wr W) => check_any im _ _ (fun v hv => small_right (hright v hv)) W (hwr.below h) ((VsAt.of_owns hown).below h) (hfn.own.at.below h)
      have HEE := Lib.hid hE
      have HBK := Lib.hid hbk
      have HOW := Lib.hid hown
      have HFN := Lib.hid hfn
      have HN4 := HRD.out.hN
      clear hrun hE hright hbk hown hfn HPA HRN hkn hlt
      by_cases hz : im.check = 0
      · rw [hz] at hck
        have HPP : Hid (PA = (im, 0, 0)) := Lib.hid (by rw [HEE.out, if_pos hz])
        clear HEE hz
        go_wp2_with fail
        refine (hck _ (Below.refl _ _)).mono ?_
        rintro e w3 ⟨rfl, hb3⟩
        have hbk3 := (hb3.block _ (Mem.lt HBK.out)).trans HBK.out
        have d0 := Mem.cell (v := .slice co im.cs.length cp) hbk3 0 rfl
        have d1 := Mem.cell (v := .slice fo im.fs.length cq) hbk3 1 rfl
        have hmi3 := (hb3.block _ (Mem.lt HMI1.out)).trans HMI1.out
        have u0 := Mem.cell (v := .slice none 0 0) hmi3 0 rfl
        have u1 := Mem.cell (v := .slice none 0 0) hmi3 1 rfl
        have uf0 := Mem.free hmi3 0
        have uf1 := Mem.free hmi3 1
        have hmi5 := setCell_block (setCell_block hmi3 (i := 0) (.slice co im.cs.length cp)) (i := 1) (.slice fo im.fs.length cq)
        have v0 := Mem.cell (v := .slice co im.cs.length cp) hmi5 0 rfl
        have v1 := Mem.cell (v := .slice fo im.fs.length cq) hmi5 1 rfl
        have HF : Hid (ParA w PA (.returned (.tuple #[.agg #[.slice co im.cs.length cp, .slice fo im.fs.length cq], .int .i64 0, .int .i64 0])) ((w3.setCell ⟨w.heap.size, 0, none⟩ (.slice co im.cs.length cp)).setCell ⟨w.heap.size, 1, none⟩ (.slice fo im.fs.length cq))) := Lib.hid (by
          rw [HPP.out]
          exact ⟨((below_then HB.out hb3).setCell (p := ⟨w.heap.size, 0, none⟩) (by simp) (.slice co im.cs.length cp)).setCell (p := ⟨w.heap.size, 1, none⟩) (by simp) (.slice fo im.fs.length cq), .slice co im.cs.length cp, .slice fo im.fs.length cq, rfl, owns_low (owns_set (ownsRow_keep HOW.out hb3) (b := w.heap.size) (by omega) 0 [.slice co im.cs.length cp, .slice fo im.fs.length cq]) (by omega), ((HFN.out.keep hb3).set (b := w.heap.size) (by omega) 0 [.slice co im.cs.length cp, .slice fo im.fs.length cq]).own.low (by omega)⟩)
        clear hbk3 hmi3 hmi5 hb3 c0 c1 r0 r1 rf0 rf1
        go_wp2_with fail
        refine bodyPost_ret (v := .tuple #[.agg #[.slice co im.cs.length cp, .slice fo im.fs.length cq], .int .i64 0, .int .i64 0]) (by simp [results, Tryz.results9, go_sem, v0, v1]) rfl ?_
        exact HF.out
      · have z1 : (im.check == 0) = false := by simpa using hz
        obtain ⟨E, hE⟩ : ∃ E, E = im.check := ⟨_, rfl⟩
        rw [← hE] at hz z1 hck
        have HPP : Hid (PA = (im0, 0, E)) := Lib.hid (by rw [HEE.out, ← hE, if_neg hz])
        clear HEE hE
        go_wp2_with fail
        refine (hck _ (Below.refl _ _)).mono ?_
        rintro e w3 ⟨rfl, hb3⟩
        have hmi3 := (hb3.block _ (Mem.lt HMI1.out)).trans HMI1.out
        have u0 := Mem.cell (v := .slice none 0 0) hmi3 0 rfl
        have u1 := Mem.cell (v := .slice none 0 0) hmi3 1 rfl
        have uf0 := Mem.free hmi3 0
        have uf1 := Mem.free hmi3 1
        have hmi5 := setCell_block (setCell_block hmi3 (i := 0) (.slice none 0 0)) (i := 1) (.slice none 0 0)
        have v0 := Mem.cell (v := .slice none 0 0) hmi5 0 rfl
        have v1 := Mem.cell (v := .slice none 0 0) hmi5 1 rfl
        have HF : Hid (ParA w PA (.returned (.tuple #[.agg #[.slice none 0 0, .slice none 0 0], .int .i64 0, .int .i64 E])) ((w3.setCell ⟨w.heap.size, 0, none⟩ (.slice none 0 0)).setCell ⟨w.heap.size, 1, none⟩ (.slice none 0 0))) := Lib.hid (by
          rw [HPP.out]
          exact ParA.none 0 E (((below_then HB.out hb3).setCell (p := ⟨w.heap.size, 0, none⟩) (by simp) _).setCell (p := ⟨w.heap.size, 1, none⟩) (by simp) _))
        clear hmi3 hmi5 hb3 c0 c1 r0 r1 rf0 rf1
        go_wp2_with fail
        refine bodyPost_ret (v := .tuple #[.agg #[.slice none 0 0, .slice none 0 0], .int .i64 0, .int .i64 E]) (by simp [results, Tryz.results9, go_sem, v0, v1]) rfl ?_
        exact HF.out
end Go.Proofs.YtiggallcoocdaaaGreatDoor
