/- SrtL, SrtM: joined into one text; each part says below what it holds. -/
import Derived.Test.YtlkgcidhhngfeaaGreatDoorSrtT
import Derived.Test.YtlkgcidhhngfeaaGreatDoorKeyL
import Derived.Test.YtlkgcidhhngfeaaGreatDoorZB
/- slices.SortFunc at []label.Label with the comparator of store.Labels, at twelve labels or fewer. -/
namespace Go.Proofs.YtlkgcidhhngfeaaGreatDoor
open Go.RowKit Go.Maps Go.Sort
/-- the cells of a list of labels, and what lies behind -/
def rowC (d : Array LL) (rest : List Value) : Array Value := (d.toList.flatMap celL ++ rest).toArray
theorem flat_get : ∀ (l : List LL) (rest : List Value) (i : Nat) (x : LL), l[i]? = some x → (l.flatMap celL ++ rest)[i * 2]? = some (.string x.1) ∧ (l.flatMap celL ++ rest)[i * 2 + 1]? = some (.string x.2)
  | [], _, _, _, h => by simp at h
  | a :: l, rest, 0, x, h => by
    obtain rfl : a = x := by simpa using h
    exact ⟨rfl, rfl⟩
  | a :: l, rest, i + 1, x, h => by
    have ih := flat_get l rest i x (by simpa using h)
    rw [List.flatMap_cons, List.append_assoc]
    show (celL a ++ (l.flatMap celL ++ rest))[(i + 1) * 2]? = _ ∧ (celL a ++ (l.flatMap celL ++ rest))[(i + 1) * 2 + 1]? = _
    rw [show (i + 1) * 2 = i * 2 + 2 by omega, show i * 2 + 2 + 1 = (i * 2 + 1) + 2 by omega]
    exact ih
theorem flat_set : ∀ (l : List LL) (rest : List Value) (i : Nat) (x : LL), i < l.length → ((l.flatMap celL ++ rest).set (i * 2) (.string x.1)).set (i * 2 + 1) (.string x.2) = (l.set i x).flatMap celL ++ rest
  | [], _, _, _, h => by simp at h
  | a :: l, rest, 0, x, h => rfl
  | a :: l, rest, i + 1, x, h => by
    have ih := flat_set l rest i x (by simpa using h)
    rw [List.flatMap_cons, List.append_assoc, List.set_cons_succ, List.flatMap_cons, List.append_assoc, ← ih]
    show ((celL a ++ (l.flatMap celL ++ rest)).set ((i + 1) * 2) _).set ((i + 1) * 2 + 1) _ = _
    rw [show (i + 1) * 2 = i * 2 + 2 by omega, show i * 2 + 2 + 1 = (i * 2 + 1) + 2 by omega]
    rfl
theorem rowC_get {d : Array LL} {rest : List Value} {i : Nat} (hi : i < d.size) : (rowC d rest)[i * 2]? = some (.string d[i]!.1) ∧ (rowC d rest)[i * 2 + 1]? = some (.string d[i]!.2) := by
  unfold rowC
  rw [List.getElem?_toArray, List.getElem?_toArray]
  exact flat_get _ _ _ _ (by simp [hi])
theorem rowC_cell {w : World} {g : Nat} {d : Array LL} {rest : List Value} (h : w.heap[g]? = some (.cells (rowC d rest) 25)) (i : Nat) (hi : i < d.size) : w.cell? ⟨g, i * 2, none⟩ = some (.string d[i]!.1) ∧ w.cell? ⟨g, i * 2 + 1, none⟩ = some (.string d[i]!.2) := by
  have hc := rowC_get (rest := rest) hi
  constructor
  · simp only [World.cell?, h]
    simpa using hc.1
  · simp only [World.cell?, h]
    simpa using hc.2
theorem rowC_free {w : World} {g : Nat} {d : Array LL} {rest : List Value} (h : w.heap[g]? = some (.cells (rowC d rest) 25)) (i : Nat) : w.frozen? ⟨g, i, none⟩ = false := by simp [World.frozen?, h]
theorem rowC_set {d : Array LL} {rest : List Value} {i : Nat} (x : LL) (hi : i < d.size) : ((rowC d rest).setIfInBounds (i * 2) (.string x.1)).setIfInBounds (i * 2 + 1) (.string x.2) = rowC (d.setIfInBounds i x) rest := by
  apply Array.ext'
  have := flat_set d.toList rest i x (by simpa using hi)
  simp only [rowC, Array.toList_setIfInBounds]
  exact this
/-- a label laid into a row -/
def putC (w : World) (g i : Nat) (x : LL) : World := (w.setCell ⟨g, i * 2, none⟩ (.string x.1)).setCell ⟨g, i * 2 + 1, none⟩ (.string x.2)
theorem putC_row {w : World} {g : Nat} {d : Array LL} {rest : List Value} (h : w.heap[g]? = some (.cells (rowC d rest) 25)) (i : Nat) (hi : i < d.size) (x : LL) : (putC w g i x).heap[g]? = some (.cells (rowC (d.setIfInBounds i x) rest) 25) := by
  rw [← rowC_set x hi]
  unfold putC World.setCell
  simp [Array.getElem?_modify, h]
theorem kf_setC {w : World} {g i : Nat} {v : Value} : KF (fun b => b = g) w (w.setCell ⟨g, i, none⟩ v) := kf_setCell
theorem putC_kf {w : World} {g i : Nat} {x : LL} : KF (fun b => b = g) w (putC w g i x) := kf_setCell.trans kf_setCell
theorem row_swap2 {w : World} {g : Nat} {d : Array LL} {rest : List Value} (h : w.heap[g]? = some (.cells (rowC d rest) 25)) (i j : Nat) (hi : i < d.size) (hj : j < d.size) :
    ((putC (putC w g i d[j]!) g j d[i]!).drew).heap[g]? = some (.cells (rowC (swp d i j) rest) 25) :=
  putC_row (putC_row h i hi _) j (by simpa using hj) _
theorem kf_swap2 {w : World} {g i j : Nat} {x y : LL} : KF (fun b => b = g) w ((putC (putC w g i x) g j y).drew) := kf_dr (putC_kf.trans putC_kf)
def ltC (cmp : LL → LL → Int) (x y : LL) : Bool := decide (cmp x y < 0)
def AllM (M : LL → Prop) (d : Array LL) : Prop := ∀ i, i < d.size → M d[i]!
theorem swp_getC {d : Array LL} {i j : Nat} (hi : i < d.size) (hj : j < d.size) (k : Nat) (hk : k < d.size) : (swp d i j)[k]! = if k = j then d[i]! else if k = i then d[j]! else d[k]! := by
  unfold swp
  by_cases h1 : k = j
  · subst h1; simp [hk]
  · by_cases h2 : k = i
    · subst h2; simp [hk, h1, Ne.symm h1]
    · simp [hk, h1, h2, Ne.symm h1, Ne.symm h2]
theorem allM_swp {M : LL → Prop} {d : Array LL} {i j : Nat} (h : AllM M d) (hi : i < d.size) (hj : j < d.size) : AllM M (swp d i j) := fun k hk => by
  have hk' : k < d.size := by simpa [swp] using hk
  rw [swp_getC hi hj k hk']
  split
  · exact h i hi
  · split
    · exact h j hj
    · exact h k hk'
/-- a later world, in which only block g was turned -/
def KG (g : Nat) (w0 w : World) : Prop := KF (fun b => b = g) w0 w
theorem KG.kf {g : Nat} {w0 w w' : World} (h : KG g w0 w) (k : KF (fun b => b = g) w w') : KG g w0 w' := KF.trans h k
theorem KG.below {g : Nat} {w0 w w' : World} (h : KG g w0 w) (k : Below w.heap.size w w') : KG g w0 w' := KF.below h k
theorem KG.alloc {g : Nat} {w0 w : World} (h : KG g w0 w) (o : Obj) : KG g w0 (w.alloc o) := h.below ((Below.refl _ _).alloc (Nat.le_refl _) o)
theorem KG.after {g : Nat} {w0 w : World} (h : KG g w0 w) (p : After w) : KG g w0 p.world := h.below p.h
set_option maxRecDepth 100000 in
set_option maxHeartbeats 16000000 in
theorem insL_raw (cmp : LL → LL → Int) (M : LL → Prop) (bx g cap n : Nat) (d : Array LL) (rest : List Value) (w : World) (hc : ∀ W x y, KG g w W → M x → M y → Calls Tryz.prog 39 #[.agg #[.string x.1, .string x.2], .agg #[.string y.1, .string y.2], .pointer (some ⟨bx, 0, none⟩)] W fun e w' => e = .returned (.int .i64 (cmp x y)) ∧ Below W.heap.size W w') (hd : d.size = n) (hn : n ≤ 1000000) (hrow : w.heap[g]? = some (.cells (rowC d rest) 25)) (hs : AllM M d) :
    Calls Tryz.prog 87 #[.slice (some ⟨g, 0, none⟩) n cap, .int .i64 0, .int .i64 n, .func (.func 39) #[] #[.pointer (some ⟨bx, 0, none⟩)]] w fun e w' => e = .returned (.tuple #[]) ∧ KF (fun b => b = g) w w' ∧ w'.heap[g]? = some (.cells (rowC (insertionSort (ltC cmp) d 0 n) rest) 25) := by
  have HD := Lib.hid hd
  have HR := Lib.hid hrow
  have HS := Lib.hid hs
  clear hd hrow hs
  have HCM := Lib.hid hc
  clear hc
  have hw : KG g w w := KF.refl _ _
  go_enter Tryz.func87, Tryz.ntmps87
  have hB0 := Below.refl w.heap.size w
  have M0 := Mem.nil w
  have hw0 := hw
  go_wp2_with fail
  go_loopw [8] (fun vi wr => ∃ (i : Nat) (dk : Array LL), vi = .int .i64 i ∧ 0 < i ∧ i ≤ n + 1 ∧ Hid (dk.size = n) ∧ Hid (AllM M dk) ∧ Hid (KF (fun b => b = g) w wr) ∧ Mem wr [(g, .cells (rowC dk rest) 25)] ∧ Hid (insOuter (ltC cmp) 0 n i dk = insOuter (ltC cmp) 0 n 1 d)) (fun vi _ => n + 1 - (intOf vi).toNat)
  case atStart => exact ⟨1, d, rfl, by omega, by omega, HD, HS, Lib.hid (KF.refl _ _), ⟨HR.out, trivial⟩, Lib.hid rfl⟩
  case round =>
    obtain ⟨i, dk, rfl, hi0, hin, HDK, HSK, HKF, hM, HO⟩ := hrel
    by_cases hlt : i < n
    · have hltz : (i : Int) < (n : Int) := by omega
      go_wp2_with fail
      have HST := Lib.hid (And.intro HDK (And.intro HSK (And.intro HKF hM)))
      clear HDK HSK HKF hM
      go_loopw [9] (fun vj wr => ∃ (j : Nat) (dj : Array LL), vj = .int .i64 j ∧ j ≤ i ∧ Hid (dj.size = n) ∧ Hid (AllM M dj) ∧ Hid (KF (fun b => b = g) w wr) ∧ Mem wr [(g, .cells (rowC dj rest) 25)] ∧ Hid (insInner (ltC cmp) 0 j dj = insInner (ltC cmp) 0 i dk)) (fun vj _ => (intOf vj).toNat)
      case atStart => exact ⟨i, dk, rfl, Nat.le_refl _, HST.out.1, HST.out.2.1, HST.out.2.2.1, HST.out.2.2.2, Lib.hid rfl⟩
      case round =>
        clear HST
        obtain ⟨j, dj, rfl, hji, HDJ, HSJ, HKJ, hM, HI⟩ := hrel
        obtain ⟨w50, rfl⟩ : ∃ x, x = wr := ⟨_, rfl⟩
        have hB50 := HKJ.out
        have hw50 := hw0.kf hB50
        have M50 := hM
        clear hM HKJ
        have OUT : Hid ((j = 0 ∨ (ltC cmp) dj[j]! dj[j - 1]! = false) → insOuter (ltC cmp) 0 n (i + 1) dj = insOuter (ltC cmp) 0 n 1 d) := Lib.hid fun hs => by
          rw [← HO.out, insOuter_go _ _ _ _ _ hlt, ← HI.out, insInner_stop _ _ _ _ (hs.imp (fun e => by omega) id)]
        have z50_0 := Mem.lt M50.1
        by_cases hja : 0 < j
        · have hjaz : (0 : Int) < (j : Int) := by omega
          obtain ⟨jp, hjp⟩ : ∃ q, q + 1 = j := ⟨j - 1, by omega⟩
          have zjp : (j : Int) = (jp : Int) + 1 := by omega
          have hjad : decide ((jp : Int) + 1 > 0) = true := decide_eq_true (by omega)
          have hjaz' : (0 : Int) < (jp : Int) + 1 := by omega
          obtain ⟨x, hx⟩ : ∃ x, x = dj[j]! := ⟨_, rfl⟩
          obtain ⟨y, hy⟩ : ∃ y, y = dj[j - 1]! := ⟨_, rfl⟩
          obtain ⟨r, hr⟩ : ∃ r, r = cmp x y := ⟨_, rfl⟩
          have hxs : M x := by rw [hx]; exact HSJ.out j (by have := HDJ.out; omega)
          have hys : M y := by rw [hy]; exact HSJ.out (j - 1) (by have := HDJ.out; omega)
          have hord := fun W h => HCM.out W x y h hxs hys
          rw [← hr] at hord
          have HXY := Lib.hid (And.intro hx (And.intro hy (And.intro hr hjp)))
          obtain ⟨iN, hiN⟩ : ∃ q, q = j := ⟨_, rfl⟩
          obtain ⟨jN, hjN⟩ : ∃ q, q = j - 1 := ⟨_, rfl⟩
          have ea : ((jp : Int) + 1).toNat = iN := by omega
          have pa : (0 : Int) ≤ (jp : Int) + 1 := by omega
          have ba : (jp : Int) + 1 < (n : Int) := by omega
          have ra : IntKind.i64.wrap ((jp : Int) + 1) = (jp : Int) + 1 := by rw [IntKind.wrap_i64]; omega
          have ec : ((jp : Int)).toNat = jN := by omega
          have pc : (0 : Int) ≤ (jp : Int) := by omega
          have bc : (jp : Int) < (n : Int) := by omega
          have rc : IntKind.i64.wrap ((jp : Int)) = (jp : Int) := by rw [IntKind.wrap_i64]; omega
          have ca := fun p : After w50 => (rowC_cell (Mem.after M50 p).1 j (by have := HDJ.out; omega)).1
          have ca2 := fun p : After w50 => (rowC_cell (Mem.after M50 p).1 j (by have := HDJ.out; omega)).2
          have cb := fun p : After w50 => (rowC_cell (Mem.after M50 p).1 (j - 1) (by have := HDJ.out; omega)).1
          have cb2 := fun p : After w50 => (rowC_cell (Mem.after M50 p).1 (j - 1) (by have := HDJ.out; omega)).2
          rw [← hx, ← hiN] at ca ca2
          rw [← hy, ← hjN] at cb cb2
          have HNN := Lib.hid (And.intro hiN hjN)
          clear hx hy hr hjp hiN hjN
          have HORD := Lib.hid hord
          clear hord
          by_cases hr0 : r < 0
          · have hd : decide (r < 0) = true := decide_eq_true hr0
            go_upto_region 4 with (fail)
            refine wp_region_after (by kernel_rfl) (by kernel_rfl) ?_
            repeat (go_big_quiet_step ((go_at_call 39; with_reducible exact After.call (HORD.out _ ((KG.after hw50 _))))))
            refine wpQuiet_nil ?_
            rintro _ ⟨p50, rfl⟩
            clear z50_0
            obtain ⟨w51, hW51⟩ : ∃ x, x = p50.world := ⟨_, rfl⟩
            have hB51 : KF (fun b => b = g) w w51 := by rw [hW51]; exact kf_then hB50 p50.h
            have hw51 : KG g w w51 := by rw [hW51]; exact hw50.below p50.h
            have M51 := M50.below p50.h
            rw [← hW51] at M51
            rw [← hW51]
            clear hW51
            clear p50
            have z51_0 := Mem.lt M51.1
            clear ca ca2 cb cb2
            go_upto_region 6 with (fail)
            have hiS : j < dj.size := by have := HDJ.out; omega
            have hjS : j - 1 < dj.size := by omega
            obtain ⟨c1a, c1b⟩ := rowC_cell M51.1 j hiS
            obtain ⟨c2a, c2b⟩ := rowC_cell M51.1 (j - 1) hjS
            rw [← HXY.out.1, ← HNN.out.1] at c1a c1b
            rw [← HXY.out.2.1, ← HNN.out.2] at c2a c2b
            have f1a := rowC_free M51.1 (iN * 2)
            have f1b := rowC_free M51.1 (iN * 2 + 1)
            have f2a := rowC_free M51.1 (jN * 2)
            have f2b := rowC_free M51.1 (jN * 2 + 1)
            obtain ⟨c3a, c3b⟩ := rowC_cell (putC_row M51.1 j hiS y) (j - 1) (by simpa using hjS)
            obtain ⟨u1, hu1⟩ : ∃ u, u = (dj.setIfInBounds j y)[j - 1]! := ⟨_, rfl⟩
            unfold putC at c3a c3b
            rw [← hu1, ← HNN.out.2, ← HNN.out.1] at c3a c3b
            clear hu1
            go_big_region
            clear c1a c1b c2a c2b c3a c3b f1a f1b f2a f2b
            have HRW : Hid ((((((w51.setCell ⟨g, iN * 2, none⟩ (.string y.1)).setCell ⟨g, iN * 2 + 1, none⟩ (.string y.2)).setCell ⟨g, jN * 2, none⟩ (.string x.1)).setCell ⟨g, jN * 2 + 1, none⟩ (.string x.2)).drew).heap[g]? = some (.cells (rowC (swp dj j (j - 1)) rest) 25)) := Lib.hid (by
              rw [HNN.out.1, HNN.out.2, HXY.out.1, HXY.out.2.1]
              exact row_swap2 M51.1 j (j - 1) hiS hjS)
            have HKW : Hid (KF (fun b => b = g) w (((((w51.setCell ⟨g, iN * 2, none⟩ (.string y.1)).setCell ⟨g, iN * 2 + 1, none⟩ (.string y.2)).setCell ⟨g, jN * 2, none⟩ (.string x.1)).setCell ⟨g, jN * 2 + 1, none⟩ (.string x.2)).drew)) := Lib.hid (hB51.trans kf_swap2)
            generalize ((((w51.setCell ⟨g, iN * 2, none⟩ (.string y.1)).setCell ⟨g, iN * 2 + 1, none⟩ (.string y.2)).setCell ⟨g, jN * 2, none⟩ (.string x.1)).setCell ⟨g, jN * 2 + 1, none⟩ (.string x.2)).drew = w60 at HRW HKW ⊢
            clear ea ec
            have HSW : Hid (AllM M (swp dj j (j - 1))) := Lib.hid (allM_swp HSJ.out hiS hjS)
            have HIW : Hid (insInner (ltC cmp) 0 (j - 1) (swp dj j (j - 1)) = insInner (ltC cmp) 0 i dk) := Lib.hid (by
              rw [← HI.out]
              exact (insInner_go (ltC cmp) 0 j dj hja (by unfold ltC; rw [← HXY.out.1, ← HXY.out.2.1, ← HXY.out.2.2.1]; exact hd)).symm)
            go_wp2_with fail
            go_roundw
            case rel => exact ⟨j - 1, swp dj j (j - 1), by first | rfl | go_num | (congr 1; omega), by omega, Lib.hid (by rw [size_swp]; exact HDJ.out), HSW, HKW, ⟨HRW.out, trivial⟩, HIW⟩
            case measure => have := HXY.out.2.2.2; simp [intOf]; omega
          · have hd : decide (r < 0) = false := decide_eq_false hr0
            go_upto_region 4 with (fail)
            refine wp_region_after (by kernel_rfl) (by kernel_rfl) ?_
            repeat (go_big_quiet_step ((go_at_call 39; with_reducible exact After.call (HORD.out _ ((KG.after hw50 _))))))
            refine wpQuiet_nil ?_
            rintro _ ⟨p50, rfl⟩
            clear z50_0
            obtain ⟨w51, hW51⟩ : ∃ x, x = p50.world := ⟨_, rfl⟩
            have hB51 : KF (fun b => b = g) w w51 := by rw [hW51]; exact kf_then hB50 p50.h
            have hw51 : KG g w w51 := by rw [hW51]; exact hw50.below p50.h
            have M51 := M50.below p50.h
            rw [← hW51] at M51
            rw [← hW51]
            clear hW51
            clear p50
            have z51_0 := Mem.lt M51.1
            clear ca ca2 cb cb2 ea ec
            have HB := Lib.hid hB51
            have HM := Lib.hid M51
            have HOW := Lib.hid (OUT.out (.inr (by unfold ltC; rw [← HXY.out.1, ← HXY.out.2.1, ← HXY.out.2.2.1]; exact hd)))
            go_wp2_with fail
            go_roundw
            case rel => exact ⟨i + 1, dj, by go_num, by omega, by omega, HDJ, HSJ, HB, HM.out, HOW⟩
            case measure => simp [intOf]; omega
        · have hj0 : j = 0 := by omega
          subst hj0
          have hjad : decide ((0 : Int) > 0) = false := rfl
          go_upto_region 4 with (fail)
          refine wp_region_after (by kernel_rfl) (by kernel_rfl) ?_
          repeat (go_big_quiet_step (((fail))))
          refine wpQuiet_nil ?_
          rintro _ ⟨p50, rfl⟩
          clear z50_0
          obtain ⟨w51, hW51⟩ : ∃ x, x = p50.world := ⟨_, rfl⟩
          have hB51 : KF (fun b => b = g) w w51 := by rw [hW51]; exact kf_then hB50 p50.h
          have hw51 : KG g w w51 := by rw [hW51]; exact hw50.below p50.h
          have M51 := M50.below p50.h
          rw [← hW51] at M51
          rw [← hW51]
          clear hW51
          clear p50
          have z51_0 := Mem.lt M51.1
          have HB := Lib.hid hB51
          have HM := Lib.hid M51
          have HOW := Lib.hid (OUT.out (.inl rfl))
          go_wp2_with fail
          go_roundw
          case rel => exact ⟨i + 1, dj, by go_num, by omega, by omega, HDJ, HSJ, HB, HM.out, HOW⟩
          case measure => simp [intOf]; omega
    · have hltz : ¬ (i : Int) < (n : Int) := by omega
      go_wp2_with fail
      go_end0
      exact ⟨rfl, HKF.out, by unfold insertionSort; rw [← HO.out, insOuter_stop _ _ _ _ _ hlt]; exact hM.1⟩
end Go.Proofs.YtlkgcidhhngfeaaGreatDoor
/- store.Labels: each label that a thing has, once. -/
namespace Go.Proofs.YtlkgcidhhngfeaaGreatDoor
open Go.RowKit Go.Maps Go.Sort
set_option maxRecDepth 100000 in
set_option maxHeartbeats 4000000 in
theorem pdqL_of (v cv : Value) (n : Nat) (h12 : n ≤ 12) (lim : Int) (R : World → Prop) (w : World) (hi : Calls Tryz.prog 87 #[v, .int .i64 0, .int .i64 n, cv] w fun e w' => e = .returned (.tuple #[]) ∧ R w') :
    Calls Tryz.prog 75 #[v, .int .i64 0, .int .i64 n, .int .i64 lim, cv] w fun e w' => e = .returned (.tuple #[]) ∧ R w' := by
  have h0 : (n : Int) ≤ 12 := by omega
  have h1 : IntKind.i64.wrap (n : Int) = (n : Int) := IntWalk.i64_in _ ⟨by omega, by omega⟩
  go_enter Tryz.func75, Tryz.ntmps75
  have hB0 := Below.refl w.heap.size w
  have M0 := Mem.nil w
  go_wp2_with fail
  refine wp_loop_rounds 1 ?_
  rw [rounds_succ]
  go_wp2_with (go_at_call 87; refine hi.mono ?_; rintro e w' ⟨rfl, hr⟩)
  (try simp only [Exit.inBlock, Exit.then])
  refine bodyPost_ret (results_none rfl _ _ _) rfl ?_
  exact ⟨rfl, hr⟩
set_option maxRecDepth 100000 in
set_option maxHeartbeats 4000000 in
theorem sortL_of (cv : Value) (a : Option Addr) (n c : Nat) (h12 : n ≤ 12) (R : World → Prop) (w : World) (hi : Calls Tryz.prog 87 #[.slice a n c, .int .i64 0, .int .i64 n, cv] w fun e w' => e = .returned (.tuple #[]) ∧ R w') :
    Calls Tryz.prog 59 #[.slice a n c, cv] w fun e w' => e = .returned (.tuple #[]) ∧ R w' := by
  have hp := fun lim => pdqL_of _ cv n h12 lim R w hi
  have hl := fun w => Tryz.bits_Len (n : Int) w (by omega) (by omega)
  clear hi
  go_enter Tryz.func59, Tryz.ntmps59
  have hB0 := Below.refl w.heap.size w
  have M0 := Mem.nil w
  go_wp2_with (first
    | (go_at_call 76; refine (hl _).mono ?_; rintro e w' ⟨rfl, rfl⟩)
    | (go_at_call 75; refine (hp _).mono ?_; rintro e w' ⟨rfl, hr⟩))
  go_end0
  exact ⟨rfl, hr⟩
set_option maxRecDepth 100000 in
set_option maxHeartbeats 4000000 in
theorem insL_nil (cv : Value) (w : World) : Calls Tryz.prog 87 #[.slice none 0 0, .int .i64 0, .int .i64 0, cv] w fun e w' => e = .returned (.tuple #[]) ∧ w' = w := by
  go_enter Tryz.func87, Tryz.ntmps87
  have hB0 := Below.refl w.heap.size w
  have M0 := Mem.nil w
  go_wp2_with fail
  refine wp_loop_rounds 1 ?_
  rw [rounds_succ]
  go_wp2_with fail
  go_end0
  exact ⟨rfl, rfl⟩
/-- the first name of a label -/
def headL (S : St) (x : LL) : ByteArray := (namesOf S x.1 x.2).headD ⟨#[]⟩
def cmpH (S : St) (x y : LL) : Int := ordB (headL S x) (headL S y)
theorem swoH (S : St) : SWO (ltC (cmpH S)) where
  irrefl x := swoB.irrefl (headL S x)
  trans x y z h1 h2 := swoB.trans (headL S x) (headL S y) (headL S z) h1 h2
  ntrans x y z h1 h2 := swoB.ntrans (headL S x) (headL S y) (headL S z) h1 h2
def sortH (S : St) (L : List LL) : List LL := (insertionSort (ltC (cmpH S)) L.toArray 0 L.length).toList
theorem sortH_perm (S : St) (L : List LL) : (sortH S L).Perm L := by
  have h := (insertionSort_holds (swoH S) L.toArray 0 L.length (Nat.zero_le _) (by simp)).1
  have h2 := h.2.2
  have h1 : (insertionSort (ltC (cmpH S)) L.toArray 0 L.length).size = L.length := by rw [h.1]; simp
  rw [Array.extract_eq_self_of_le (by omega), Array.extract_eq_self_of_le (by simp)] at h2
  exact h2
theorem sortH_length (S : St) (L : List LL) : (sortH S L).length = L.length := (sortH_perm S L).length_eq
theorem flat_len (L : List LL) : (L.flatMap celL).length = L.length * 2 := by
  induction L with
  | nil => rfl
  | cons a L ih => rw [List.flatMap_cons, List.length_append, ih, List.length_cons]; show 2 + _ = _; omega
/-- a label that has names -/
def HasN (S : St) (x : LL) : Prop := namesOf S x.1 x.2 ≠ [] ∧ Bd x.1 ∧ Bd x.2
theorem look_head {w : World} {p : Nat} {S : St} {W Q : Nat → Prop} {bt bn : Nat} {Dt Dn : DataW Value} (h : StoreIn w p S W Q bt bn Dt Dn) {x : LL} (hx : HasN S x) :
    ∃ g n c, 0 < n ∧ (headL S x).size ≤ 95 ∧ ∀ W', Below w.heap.size w W' → (Instr.lookup 62 (.map (some bn)) (.agg #[.string x.1, .string x.2]) false).run Tryz.prog W' = .ok (.slice (some ⟨g, 0, none⟩) n c) W' ∧ W'.cell? ⟨g, 0, none⟩ = some (.string (headL S x)) := by
  have hl := fun (W' : World) (hb : Below w.heap.size w W') => names_look (h.below hb).names (h.below hb).rN x.1 x.2 hx.2.1 hx.2.2
  obtain ⟨v, hv⟩ : ∃ v, v = (fD Dn (labK x.1 x.2)).getD nilS := ⟨_, rfl⟩
  rw [← hv] at hl
  clear hv
  have hlen : 0 < (namesOf S x.1 x.2).length := List.length_pos_iff.2 hx.1
  obtain ⟨a, c, e, _, h3⟩ := str_row (hl w (Below.refl _ _)).2
  subst e
  obtain ⟨g, rfl, _⟩ := h3 0 hlen
  have hd : ∀ (L : List ByteArray) (h : 0 < L.length), L[0] = L.headD ⟨#[]⟩ := fun L h => by cases L with | nil => cases h | cons a L => rfl
  refine ⟨g, _, c, hlen, ?_, fun W' hb => ⟨(hl W' hb).1, ?_⟩⟩
  · have hm : headL S x ∈ namesOf S x.1 x.2 := by unfold headL; rw [← hd _ hlen]; exact List.getElem_mem _
    obtain ⟨o, ho, _⟩ := namesOf_mem.1 hm
    exact okE_size (h.ok _ ho)
  · obtain ⟨g', e, hc⟩ := str_cell (hl W' hb).2 0 hlen
    cases e
    rw [hc, hd]
    rfl
set_option maxRecDepth 100000 in
set_option maxHeartbeats 8000000 in
theorem cmpL_any (pp bx bt bn : Nat) (S : St) (W Q : Nat → Prop) (Dt Dn : DataW Value) (x y : LL) (w : World) (h : StoreIn w pp S W Q bt bn Dt Dn) (hbx : w.heap[bx]? = some (.cells #[.pointer (some ⟨pp, 0, none⟩)] 34)) (hx : HasN S x) (hy : HasN S y) (hw : Laid w) :
    Calls Tryz.prog 39 #[.agg #[.string x.1, .string x.2], .agg #[.string y.1, .string y.2], .pointer (some ⟨bx, 0, none⟩)] w fun e w' => e = .returned (.int .i64 (cmpH S x y)) ∧ Below w.heap.size w w' := by
  obtain ⟨a1, a2⟩ := x
  obtain ⟨b1, b2⟩ := y
  obtain ⟨g1, n1, k1, hn1, hs1, hl1⟩ := look_head h hx
  obtain ⟨g2, n2, k2, hn2, hs2, hl2⟩ := look_head h hy
  have hp := h.ptr
  obtain ⟨r, hr⟩ : ∃ r, r = cmpH S (a1, a2) (b1, b2) := ⟨_, rfl⟩
  have HORD := Lib.hid fun W hW => order_at (headL S (a1, a2)) (headL S (b1, b2)) W hs1 hs2 hW
  rw [show ordB (headL S (a1, a2)) (headL S (b1, b2)) = r from hr.symm] at HORD
  rw [← hr]
  have H1 : Hid (∀ W', Below w.heap.size w W' → (Instr.lookup 62 (.map (some bn)) (.agg #[.string a1, .string a2]) false).run Tryz.prog W' = .ok (.slice (some ⟨g1, 0, none⟩) n1 k1) W' ∧ W'.cell? ⟨g1, 0, none⟩ = some (.string (headL S (a1, a2)))) := Lib.hid hl1
  have H2 : Hid (∀ W', Below w.heap.size w W' → (Instr.lookup 62 (.map (some bn)) (.agg #[.string b1, .string b2]) false).run Tryz.prog W' = .ok (.slice (some ⟨g2, 0, none⟩) n2 k2) W' ∧ W'.cell? ⟨g2, 0, none⟩ = some (.string (headL S (b1, b2)))) := Lib.hid hl2
  obtain ⟨s1, e1⟩ : ∃ s, s = headL S (a1, a2) := ⟨_, rfl⟩
  obtain ⟨s2, e2⟩ : ∃ s, s = headL S (b1, b2) := ⟨_, rfl⟩
  rw [← e1] at H1 HORD
  rw [← e2] at H2 HORD
  clear h hx hy hr hs1 hs2 hl1 hl2 e1 e2
  have pn1 : (0 : Int) < (n1 : Int) := by omega
  have pn2 : (0 : Int) < (n2 : Int) := by omega
  go_enter Tryz.func39, Tryz.ntmps39
  have hB0 := Below.refl w.heap.size w
  have M0 := Mem.nil w
  have hw0 := hw
  clear M0
  have M0 : Mem w [(bx, .cells #[.pointer (some ⟨pp, 0, none⟩)] 34), (pp, .cells #[.map (some bt), .map (some bn)] 64)] := ⟨hbx, hp, trivial⟩
  have c0_0_0 := Mem.cell (v := .pointer (some ⟨pp, 0, none⟩)) M0.1 0 rfl
  have z0_0 := Mem.lt M0.1
  have c0_1_0 := Mem.cell (v := .map (some bt)) M0.2.1 0 rfl
  have c0_1_1 := Mem.cell (v := .map (some bn)) M0.2.1 1 rfl
  have z0_1 := Mem.lt M0.2.1
  go_upto_region 1 with (fail)
  refine wp_named ?_
  intro w1 hW1
  have hB1 : Below w.heap.size w w1 := by rw [hW1]; exact (below_al (below_al hB0 _) _)
  have hw1 : Laid w1 := by rw [hW1]; exact ((hw.alloc _).alloc _)
  have M1 := ((M0).new' (w.heap.size) (by rfl) (.cells #[.string a1, .string a2] 25)).new' (w.heap.size + 1) (by simp) (.cells #[.string b1, .string b2] 25)
  rw [← hW1] at M1
  clear c0_0_0 z0_0 c0_1_0 c0_1_1 z0_1
  clear hW1
  have c1_0_0 := Mem.cell (v := .string b1) M1.1 0 rfl
  have c1_0_1 := Mem.cell (v := .string b2) M1.1 1 rfl
  have z1_0 := Mem.lt M1.1
  have c1_1_0 := Mem.cell (v := .string a1) M1.2.1 0 rfl
  have c1_1_1 := Mem.cell (v := .string a2) M1.2.1 1 rfl
  have z1_1 := Mem.lt M1.2.1
  have c1_2_0 := Mem.cell (v := .pointer (some ⟨pp, 0, none⟩)) M1.2.2.1 0 rfl
  have z1_2 := Mem.lt M1.2.2.1
  have c1_3_0 := Mem.cell (v := .map (some bt)) M1.2.2.2.1 0 rfl
  have c1_3_1 := Mem.cell (v := .map (some bn)) M1.2.2.2.1 1 rfl
  have z1_3 := Mem.lt M1.2.2.2.1
  have lk1 := fun p : After w1 => (H1.out _ (below_then hB1 p.h)).1
  have lk2 := fun p : After w1 => (H2.out _ (below_then hB1 p.h)).1
  have ck1 := fun p : After w1 => (H1.out _ (below_then hB1 p.h)).2
  have ck2 := fun p : After w1 => (H2.out _ (below_then hB1 p.h)).2
  have p1_0_0 := fun p : After w1 => Mem.cell (v := .string b1) (Mem.after M1 p).1 0 rfl
  have p1_0_1 := fun p : After w1 => Mem.cell (v := .string b2) (Mem.after M1 p).1 1 rfl
  have p1_1_0 := fun p : After w1 => Mem.cell (v := .string a1) (Mem.after M1 p).2.1 0 rfl
  have p1_1_1 := fun p : After w1 => Mem.cell (v := .string a2) (Mem.after M1 p).2.1 1 rfl
  have p1_2_0 := fun p : After w1 => Mem.cell (v := .pointer (some ⟨pp, 0, none⟩)) (Mem.after M1 p).2.2.1 0 rfl
  have p1_3_0 := fun p : After w1 => Mem.cell (v := .map (some bt)) (Mem.after M1 p).2.2.2.1 0 rfl
  have p1_3_1 := fun p : After w1 => Mem.cell (v := .map (some bn)) (Mem.after M1 p).2.2.2.1 1 rfl
  refine wp_region_after (by kernel_rfl) (by kernel_rfl) ?_
  repeat (go_big_quiet_step ((go_at_call 33; with_reducible exact After.call (HORD.out _ ((Laid.after hw1 _))))))
  refine wpQuiet_nil ?_
  rintro _ ⟨p1, rfl⟩
  clear p1_0_0 p1_0_1 p1_1_0 p1_1_1 p1_2_0 p1_3_0 p1_3_1
  clear c1_0_0 c1_0_1 z1_0 c1_1_0 c1_1_1 z1_1 c1_2_0 z1_2 c1_3_0 c1_3_1 z1_3
  obtain ⟨w2, hW2⟩ : ∃ x, x = p1.world := ⟨_, rfl⟩
  have hB2 : Below w.heap.size w w2 := by rw [hW2]; exact below_then hB1 p1.h
  have hw2 : Laid w2 := by rw [hW2]; exact hw1.below p1.h
  have M2 := M1.below p1.h
  rw [← hW2] at M2
  rw [← hW2]
  clear hW2
  clear p1
  have c2_0_0 := Mem.cell (v := .string b1) M2.1 0 rfl
  have c2_0_1 := Mem.cell (v := .string b2) M2.1 1 rfl
  have z2_0 := Mem.lt M2.1
  have c2_1_0 := Mem.cell (v := .string a1) M2.2.1 0 rfl
  have c2_1_1 := Mem.cell (v := .string a2) M2.2.1 1 rfl
  have z2_1 := Mem.lt M2.2.1
  have c2_2_0 := Mem.cell (v := .pointer (some ⟨pp, 0, none⟩)) M2.2.2.1 0 rfl
  have z2_2 := Mem.lt M2.2.2.1
  have c2_3_0 := Mem.cell (v := .map (some bt)) M2.2.2.2.1 0 rfl
  have c2_3_1 := Mem.cell (v := .map (some bn)) M2.2.2.2.1 1 rfl
  have z2_3 := Mem.lt M2.2.2.2.1
  go_wp2_with fail
  go_ret
  exact ⟨rfl, hB2⟩
theorem sortFuncL_any (S : St) (bx : Nat) (M : LL → Prop) (L : List LL) (B : Nat) (v : Value) (w : World) (hr : w.ownsRow B 25 2 v L.length (L.flatMap celL)) (h12 : L.length ≤ 12) (hM : ∀ x ∈ L, M x)
    (hc : ∀ g W x y, v.ownBlock = some g → KG g w W → M x → M y → Calls Tryz.prog 39 #[.agg #[.string x.1, .string x.2], .agg #[.string y.1, .string y.2], .pointer (some ⟨bx, 0, none⟩)] W fun e w' => e = .returned (.int .i64 (cmpH S x y)) ∧ Below W.heap.size W w') :
    Calls Tryz.prog 59 #[v, .func (.func 39) #[] #[.pointer (some ⟨bx, 0, none⟩)]] w fun e w' => e = .returned (.tuple #[]) ∧ KF (fun b => v.ownBlock = some b) w w' ∧ w'.ownsRow B 25 2 v (sortH S L).length ((sortH S L).flatMap celL) := by
  have hr0 := hr
  rcases hr.2 with ⟨rfl, hn⟩ | ⟨g, cap, cur, rfl, hB, hg, h1, h2, h3, h4⟩
  · obtain rfl : L = [] := List.eq_nil_of_length_eq_zero hn
    refine (sortL_of _ none 0 0 (by omega) (fun w' => w' = w) w (insL_nil _ w)).mono ?_
    rintro e w' ⟨rfl, rfl⟩
    exact ⟨rfl, KF.refl _ _, by rw [show sortH S [] = [] from List.eq_nil_of_length_eq_zero (sortH_length S [])]; exact hr0⟩
  · have hrow : w.heap[g]? = some (.cells (rowC L.toArray (cur.toList.drop (L.length * 2))) 25) := by
      rw [hg]
      congr 2
      unfold rowC
      show cur = (L.flatMap celL ++ cur.toList.drop (L.length * 2)).toArray
      rw [← h4, List.take_append_drop]
    refine (sortL_of _ (some ⟨g, 0, none⟩) L.length cap h12 _ w (insL_raw (cmpH S) M bx g cap L.length L.toArray (cur.toList.drop (L.length * 2)) w (fun W x y k a b => hc g W x y rfl k a b) (by simp) (by omega) hrow (fun i hi => by
      have hi' : i < L.length := by simpa using hi
      have : L.toArray[i]! = L[i] := by simp [hi']
      rw [this]
      exact hM _ (List.getElem_mem _)))).mono ?_
    rintro e w' ⟨rfl, hk, hrw⟩
    refine ⟨rfl, hk.mono fun k _ e => by rw [e]; rfl, by rw [flat_len], .inr ⟨g, cap, _, by rw [sortH_length], hB, hrw, by rw [sortH_length]; exact h1, h2, ?_, ?_⟩⟩
    · have h5 := congrArg Array.size (Obj.cells.inj (Option.some.inj (hg.symm.trans hrow))).1
      have hl := sortH_length S L
      have hs : (insertionSort (ltC (cmpH S)) L.toArray 0 L.length).toList.length = L.length := hl
      simp only [rowC, List.size_toArray, List.length_append, flat_len, List.length_drop, Array.length_toList] at h5 hs ⊢
      omega
    · unfold rowC
      show List.take ((sortH S L).length * 2) ((sortH S L).flatMap celL ++ _) = _
      rw [← flat_len, List.take_left]
theorem labPerm_hasN {w : World} {p : Nat} {S : St} {W Q : Nat → Prop} {bt bn : Nat} {Dt Dn : DataW Value} (h : StoreIn w p S W Q bt bn Dt Dn) {L : List LL} (hL : LabPerm Dn L) : L.Nodup ∧ ∀ x, x ∈ L ↔ HasN S x := by
  refine ⟨hL.1, fun x => ?_⟩
  rw [hL.2 x]
  constructor
  · rintro ⟨h1, h2, h3⟩
    obtain ⟨v, hv⟩ := Option.isSome_iff_exists.1 h3
    obtain ⟨a, b, ha, hb, e, hne⟩ := h.rN.only _ v hv
    obtain ⟨e1, e2⟩ := labK_inj' h1 h2 (bd_max ha) (bd_max hb) e
    unfold HasN
    rw [e1, e2]
    exact ⟨hne, ha, hb⟩
  · rintro ⟨h1, h2, h3⟩
    obtain ⟨v, hv, _⟩ := h.rN.has _ _ h1
    exact ⟨bd_max h2, bd_max h3, by rw [hv]; rfl⟩
theorem hasN_len {S : St} {L : List LL} (hn : L.Nodup) (h : ∀ x, x ∈ L ↔ HasN S x) : L.length ≤ S.length := by
  have := nodup_sub_len L (S.map fun e => (e.2.lS, e.2.lI)) hn fun x hx => by
    obtain ⟨s, hs⟩ := List.exists_mem_of_ne_nil _ ((h x).1 hx).1
    obtain ⟨o, h1, h2, h3⟩ := namesOf_mem.1 hs
    exact List.mem_map.2 ⟨(s, o), h1, Prod.ext h2 h3⟩
  rwa [List.length_map] at this
set_option maxRecDepth 100000 in
set_option maxHeartbeats 4000000 in
theorem sortedL_any (p bx bt bn Bm : Nat) (S : St) (W Q : Nat → Prop) (Dt Dn : DataW Value) (w : World) (h : StoreIn w p S W Q bt bn Dt Dn) (h12 : S.length ≤ 12) (hw : Laid w) (hm : w.heap[Bm]? = some (.cells #[.map (some bn)] 62)) (hbx : w.heap[bx]? = some (.cells #[.pointer (some ⟨p, 0, none⟩)] 34)) :
    Calls Tryz.prog 37 #[.func (.func 60) #[] #[.pointer (some ⟨Bm, 0, none⟩)], .func (.func 39) #[] #[.pointer (some ⟨bx, 0, none⟩)]] w fun e w' => ∃ (v : Value) (L : List LL), e = .returned v ∧ Hid (L.Nodup ∧ ∀ x, x ∈ L ↔ HasN S x) ∧ Hid (w'.ownsRow w.heap.size 25 2 v L.length (L.flatMap celL)) ∧ Below w.heap.size w w' := by
  have HC := Lib.hid (collectL_any Bm bn _ Dn w hm h.names (by have := h.sizeN; omega))
  have HI := Lib.hid h
  have HL := Lib.hid hw
  have HX := Lib.hid hbx
  clear h hw hm hbx
  go_enter Tryz.func37, Tryz.ntmps37
  have hB0 := Below.refl w.heap.size w
  have M0 := Mem.nil w
  go_wp2_with (first
    | (go_at_call 58; refine HC.out.mono ?_; rintro e w1 ⟨v, ss, rfl, hperm, hrow, hb⟩
       have HN := Lib.hid (labPerm_hasN HI.out hperm)
       have HB := Lib.hid hb
       have HR := Lib.hid hrow
       have HZ := Lib.hid (hasN_len HN.out.1 HN.out.2)
       clear hperm hrow hb)
    | (go_at_call 59
       refine (sortFuncL_any S bx (HasN S) _ _ _ _ HR.out (by have := HZ.out; omega) (fun x hx => (HN.out.2 x).1 hx) (fun g W1 x y hv hk hx hy => by
         have hge := ownsRow_ge HR.out g hv
         have hkf : KF (fun b => b = g) w W1 := (KF.of_below (F := fun b => b = g) HB.out).trans hk
         refine cmpL_any p bx bt bn S W Q Dt Dn x y W1 (HI.out.kf hkf fun b hb e => ?_) ((hkf.block bx (Array.getElem?_eq_some_iff.1 HX.out).1 (fun e => ?_)).trans HX.out) hx hy ?_
         · have := HI.out.lt b hb
           omega
         · have := (Array.getElem?_eq_some_iff.1 HX.out).1
           omega
         · exact HL.out.below (hkf.toBelow (Below.refl _ _) (Nat.le_refl _) fun k e => by rw [e]; exact hge))).mono ?_
       rintro e w2 ⟨rfl, hk, hrow⟩
       have HR2 := Lib.hid hrow
       have HK := Lib.hid hk
       clear hrow hk))
  go_ret
  have hp := sortH_perm S ss
  exact ⟨_, sortH S ss, rfl, Lib.hid ⟨hp.nodup_iff.2 HN.out.1, fun x => by rw [hp.mem_iff]; exact HN.out.2 x⟩, HR2, HK.out.toBelow HB.out HB.out.size (ownsRow_ge HR.out)⟩
set_option maxRecDepth 100000 in
set_option maxHeartbeats 4000000 in
theorem labels_any (p : Nat) (S : St) (W Q : Nat → Prop) (w : World) (h : StoreAt w p S W Q) (h12 : S.length ≤ 12) (hw : Laid w) :
    Calls Tryz.prog 17 #[.pointer (some ⟨p, 0, none⟩)] w fun e w' => ∃ (v : Value) (L : List LL), e = .returned v ∧ Hid (L.Nodup ∧ ∀ x, x ∈ L ↔ HasN S x) ∧ Hid (w'.ownsRow w.heap.size 25 2 v L.length (L.flatMap celL)) ∧ Below w.heap.size w w' := by
  obtain ⟨bt, bn, Dt, Dn, h⟩ := h
  have c0 := Mem.cell (v := .map (some bn)) h.ptr 1 rfl
  have hplt := (Array.getElem?_eq_some_iff.1 h.ptr).1
  have M2 := ((Mem.nil w).new' w.heap.size rfl (.cells #[.pointer (some ⟨p, 0, none⟩)] 34)).new' (w.heap.size + 1) (by simp) (.cells #[.map (some bn)] 62)
  have HB0 : Below w.heap.size w ((w.alloc (.cells #[.pointer (some ⟨p, 0, none⟩)] 34)).alloc (.cells #[.map (some bn)] 62)) := below_al (below_al (Below.refl _ _) _) _
  have HS := Lib.hid (sortedL_any p w.heap.size bt bn (w.heap.size + 1) S W Q Dt Dn _ (h.below HB0) h12 (hw.below HB0) M2.1 M2.2.1)
  have HB := Lib.hid HB0
  have HK := Lib.hid (fun W => (keysL_in (n := 4) { fn := fun _ => True } trivial rfl bn W).calls (fun _ => by intro n hn; cases hn))
  clear h HB0 hw M2
  go_enter Tryz.func17, Tryz.ntmps17
  have hB0 := Below.refl w.heap.size w
  have M0 := Mem.nil w
  go_wp2_with (first
    | (go_at_call 38; refine (HK.out _).mono ?_; rintro e w1 ⟨rfl, rfl⟩)
    | (go_at_call 37; refine HS.out.mono ?_; rintro e w1 ⟨v, L, rfl, HN, HR, hb⟩
       have HB2 := Lib.hid hb
       clear hb))
  trace_state
  go_ret
  have hsz := HB.out.size
  exact ⟨_, _, rfl, HN, Lib.hid (row_mono HR.out hsz), HB.out.trans (HB2.out.mono hsz)⟩
end Go.Proofs.YtlkgcidhhngfeaaGreatDoor
