/- slices.SortFunc at []string with name.Order, at twelve names or fewer. -/
import Derived.Test.YtlkgcidhhngfeaaGreatDoorEqS
import Derived.Test.YtlkgcidhhngfeaaGreatDoorShelf3
import Derived.Shelf.SlSortCmp.Small
import Derived.Shelf.SlIter.Collect
import Derived.Deep.LoopGhost
import Derived.BigQuiet
import Derived.BigRegion
namespace Go.Proofs.YtlkgcidhhngfeaaGreatDoor
open Go.RowKit Go.Maps Go.Sort
/-- the cells of a list of names, and what lies behind -/
def rowA (d : Array ByteArray) (rest : List Value) : Array Value := ((d.toList.map Value.string) ++ rest).toArray
theorem rowA_get {d : Array ByteArray} {rest : List Value} {i : Nat} (hi : i < d.size) : (rowA d rest)[i]? = some (.string d[i]!) := by
  unfold rowA
  rw [List.getElem?_toArray, List.getElem?_append_left (by simpa using hi)]
  simp [hi]
theorem rowA_cell {w : World} {g : Nat} {d : Array ByteArray} {rest : List Value} (h : w.heap[g]? = some (.cells (rowA d rest) 9)) (i : Nat) (hi : i < d.size) : w.cell? ⟨g, i, none⟩ = some (.string d[i]!) ∧ w.frozen? ⟨g, i, none⟩ = false := by
  constructor
  · simp only [World.cell?, h]
    simpa using rowA_get hi
  · simp [World.frozen?, h]
theorem rowA_set {d : Array ByteArray} {rest : List Value} {i : Nat} (s : ByteArray) (hi : i < d.size) : (rowA d rest).setIfInBounds i (.string s) = rowA (d.setIfInBounds i s) rest := by
  have hsz : (rowA d rest).size = d.size + rest.length := by simp [rowA]
  apply Array.ext_getElem?
  intro k
  by_cases hk : k = i
  · subst hk
    have h1 : k < (rowA d rest).size := by omega
    rw [rowA_get (by simpa using hi)]
    simp [h1, hi]
  · unfold rowA
    simp [Array.toList_setIfInBounds, List.getElem?_append, Ne.symm hk]
theorem setCell_row {w : World} {g : Nat} {d : Array ByteArray} {rest : List Value} (h : w.heap[g]? = some (.cells (rowA d rest) 9)) (i : Nat) (hi : i < d.size) (s : ByteArray) : (w.setCell ⟨g, i, none⟩ (.string s)).heap[g]? = some (.cells (rowA (d.setIfInBounds i s) rest) 9) := by
  unfold World.setCell
  simp [Array.getElem?_modify, h, rowA_set s hi]
theorem kf_setCell {w : World} {g i : Nat} {v : Value} : KF (fun b => b = g) w (w.setCell ⟨g, i, none⟩ v) :=
  ⟨rfl, rfl, rfl, by simp, fun k _ hk => Below.heap_setCell _ _ _ k (fun e => hk e)⟩
theorem row_swap {w : World} {g : Nat} {d : Array ByteArray} {rest : List Value} (h : w.heap[g]? = some (.cells (rowA d rest) 9)) (i j : Nat) (hi : i < d.size) (hj : j < d.size) :
    (((w.setCell ⟨g, i, none⟩ (.string d[j]!)).setCell ⟨g, j, none⟩ (.string d[i]!)).drew).heap[g]? = some (.cells (rowA (swp d i j) rest) 9) :=
  setCell_row (setCell_row h i hi _) j (by simpa using hj) _
theorem kf_swap {w : World} {g i j : Nat} {u v : Value} : KF (fun b => b = g) w ((w.setCell ⟨g, i, none⟩ u).setCell ⟨g, j, none⟩ v).drew := kf_dr (kf_setCell.trans kf_setCell)
theorem row_c2 {w : World} {g : Nat} {d : Array ByteArray} {rest : List Value} (h : w.heap[g]? = some (.cells (rowA d rest) 9)) (i j : Nat) (hi : i < d.size) (hj : j < d.size) (s : ByteArray) : ∃ u, (w.setCell ⟨g, i, none⟩ (.string s)).cell? ⟨g, j, none⟩ = some u :=
  ⟨_, (rowA_cell (setCell_row h i hi s) j (by simpa using hj)).1⟩
/-- 'stands ahead of' -/
def ltB (x y : ByteArray) : Bool := decide (ordB x y < 0)
def AllOk (d : Array ByteArray) : Prop := ∀ i, i < d.size → d[i]!.size ≤ 95
theorem swp_get {d : Array ByteArray} {i j : Nat} (hi : i < d.size) (hj : j < d.size) (k : Nat) (hk : k < d.size) : (swp d i j)[k]! = if k = j then d[i]! else if k = i then d[j]! else d[k]! := by
  unfold swp
  by_cases h1 : k = j
  · subst h1; simp [hk]
  · by_cases h2 : k = i
    · subst h2; simp [hk, h1, Ne.symm h1]
    · simp [hk, h1, h2, Ne.symm h1, Ne.symm h2]
theorem allOk_swp {d : Array ByteArray} {i j : Nat} (h : AllOk d) (hi : i < d.size) (hj : j < d.size) : AllOk (swp d i j) := fun k hk => by
  have hk' : k < d.size := by simpa [swp] using hk
  rw [swp_get hi hj k hk']
  split
  · exact h i hi
  · split
    · exact h j hj
    · exact h k hk'
set_option maxRecDepth 100000 in
set_option maxHeartbeats 16000000 in
theorem ins_raw (g cap n : Nat) (d : Array ByteArray) (rest : List Value) (w : World) (hd : d.size = n) (hn : n ≤ 1000000) (hrow : w.heap[g]? = some (.cells (rowA d rest) 9)) (hs : AllOk d) (hw : LaidF (fun b => b = g) w) :
    Calls Tryz.prog 97 #[.slice (some ⟨g, 0, none⟩) n cap, .int .i64 0, .int .i64 n, .func (.func 33) #[] #[]] w fun e w' => e = .returned (.tuple #[]) ∧ KF (fun b => b = g) w w' ∧ w'.heap[g]? = some (.cells (rowA (insertionSort ltB d 0 n) rest) 9) := by
  have HD := Lib.hid hd
  have HR := Lib.hid hrow
  have HS := Lib.hid hs
  clear hd hrow hs
  go_enter Tryz.func97, Tryz.ntmps97
  have hB0 := Below.refl w.heap.size w
  have M0 := Mem.nil w
  have hw0 := hw
  go_wp2_with fail
  go_loopw [8] (fun vi wr => ∃ (i : Nat) (dk : Array ByteArray), vi = .int .i64 i ∧ 0 < i ∧ i ≤ n + 1 ∧ Hid (dk.size = n) ∧ Hid (AllOk dk) ∧ Hid (KF (fun b => b = g) w wr) ∧ Mem wr [(g, .cells (rowA dk rest) 9)] ∧ Hid (insOuter ltB 0 n i dk = insOuter ltB 0 n 1 d)) (fun vi _ => n + 1 - (intOf vi).toNat)
  case atStart => exact ⟨1, d, rfl, by omega, by omega, HD, HS, Lib.hid (KF.refl _ _), ⟨HR.out, trivial⟩, Lib.hid rfl⟩
  case round =>
    obtain ⟨i, dk, rfl, hi0, hin, HDK, HSK, HKF, hM, HO⟩ := hrel
    by_cases hlt : i < n
    · have hltz : (i : Int) < (n : Int) := by omega
      go_wp2_with fail
      have HST := Lib.hid (And.intro HDK (And.intro HSK (And.intro HKF hM)))
      clear HDK HSK HKF hM
      go_loopw [9] (fun vj wr => ∃ (j : Nat) (dj : Array ByteArray), vj = .int .i64 j ∧ j ≤ i ∧ Hid (dj.size = n) ∧ Hid (AllOk dj) ∧ Hid (KF (fun b => b = g) w wr) ∧ Mem wr [(g, .cells (rowA dj rest) 9)] ∧ Hid (insInner ltB 0 j dj = insInner ltB 0 i dk)) (fun vj _ => (intOf vj).toNat)
      case atStart => exact ⟨i, dk, rfl, Nat.le_refl _, HST.out.1, HST.out.2.1, HST.out.2.2.1, HST.out.2.2.2, Lib.hid rfl⟩
      case round =>
        clear HST
        obtain ⟨j, dj, rfl, hji, HDJ, HSJ, HKJ, hM, HI⟩ := hrel
        obtain ⟨w50, rfl⟩ : ∃ x, x = wr := ⟨_, rfl⟩
        have hB50 := HKJ.out
        have hw50 := hw0.kf hB50
        have M50 := hM
        clear hM HKJ
        have OUT : Hid ((j = 0 ∨ ltB dj[j]! dj[j - 1]! = false) → insOuter ltB 0 n (i + 1) dj = insOuter ltB 0 n 1 d) := Lib.hid fun hs => by
          rw [← HO.out, insOuter_go _ _ _ _ _ hlt, ← HI.out, insInner_stop _ _ _ _ (hs.imp (fun e => by omega) id)]
        have z50_0 := Mem.lt M50.1
        by_cases hja : 0 < j
        · have hjaz : (0 : Int) < (j : Int) := by omega
          obtain ⟨jp, hjp⟩ : ∃ q, q + 1 = j := ⟨j - 1, by omega⟩
          have zjp : (j : Int) = (jp : Int) + 1 := by omega
          have hjad : decide ((jp : Int) + 1 > 0) = true := decide_eq_true (by omega)
          have hjaz' : (0 : Int) < (jp : Int) + 1 := by omega
          obtain ⟨x, hx⟩ : ∃ x, x = dj[j]! := ⟨_, rfl⟩
          obtain ⟨y, hy⟩ : ∃ y, y = dj[j - 1]! := ⟨_, rfl⟩
          obtain ⟨r, hr⟩ : ∃ r, r = ordB x y := ⟨_, rfl⟩
          have hxs : x.size ≤ 95 := by rw [hx]; exact HSJ.out j (by have := HDJ.out; omega)
          have hys : y.size ≤ 95 := by rw [hy]; exact HSJ.out (j - 1) (by have := HDJ.out; omega)
          have hord := fun w => order_at x y w hxs hys
          rw [← hr] at hord
          have HXY := Lib.hid (And.intro hx (And.intro hy (And.intro hr hjp)))
          obtain ⟨iN, hiN⟩ : ∃ q, q = j := ⟨_, rfl⟩
          obtain ⟨jN, hjN⟩ : ∃ q, q = j - 1 := ⟨_, rfl⟩
          have ea : ((jp : Int) + 1).toNat = iN := by omega
          have pa : (0 : Int) ≤ (jp : Int) + 1 := by omega
          have ba : (jp : Int) + 1 < (n : Int) := by omega
          have ra : IntKind.i64.wrap ((jp : Int) + 1) = (jp : Int) + 1 := by rw [IntKind.wrap_i64]; omega
          have ec : ((jp : Int)).toNat = jN := by omega
          have pc : (0 : Int) ≤ (jp : Int) := by omega
          have bc : (jp : Int) < (n : Int) := by omega
          have rc : IntKind.i64.wrap ((jp : Int)) = (jp : Int) := by rw [IntKind.wrap_i64]; omega
          have ca := fun p : After w50 => (rowA_cell (Mem.after M50 p).1 j (by have := HDJ.out; omega)).1
          have cb := fun p : After w50 => (rowA_cell (Mem.after M50 p).1 (j - 1) (by have := HDJ.out; omega)).1
          rw [← hx, ← hiN] at ca
          rw [← hy, ← hjN] at cb
          have HNN := Lib.hid (And.intro hiN hjN)
          clear hx hy hr hjp hiN hjN
          have HORD := Lib.hid hord
          clear hord
          by_cases hr0 : r < 0
          · have hd : decide (r < 0) = true := decide_eq_true hr0
            go_upto_region 4 with (fail)
            refine wp_region_after (by kernel_rfl) (by kernel_rfl) ?_
            repeat (go_big_quiet_step ((go_at_call 33; with_reducible exact After.call (HORD.out _ ((LaidF.after hw50 _)).laid))))
            refine wpQuiet_nil ?_
            rintro _ ⟨p50, rfl⟩
            clear z50_0
            obtain ⟨w51, hW51⟩ : ∃ x, x = p50.world := ⟨_, rfl⟩
            have hB51 : KF (fun b => b = g) w w51 := by rw [hW51]; exact kf_then hB50 p50.h
            have hw51 : LaidF (fun b => b = g) w51 := by rw [hW51]; exact hw50.below p50.h
            have M51 := M50.below p50.h
            rw [← hW51] at M51
            rw [← hW51]
            clear hW51
            clear p50
            have z51_0 := Mem.lt M51.1
            clear ca cb
            go_upto_region 6 with (fail)
            have hiS : j < dj.size := by have := HDJ.out; omega
            have hjS : j - 1 < dj.size := by omega
            have c1 := rowA_cell M51.1 j hiS
            have c2 := rowA_cell M51.1 (j - 1) hjS
            obtain ⟨u, c3⟩ := row_c2 M51.1 j (j - 1) hiS hjS y
            obtain ⟨c1a, c1b⟩ := c1
            obtain ⟨c2a, c2b⟩ := c2
            rw [← HXY.out.1, ← HNN.out.1] at c1a
            rw [← HNN.out.1] at c1b
            rw [← HXY.out.2.1, ← HNN.out.2] at c2a
            rw [← HNN.out.2] at c2b
            rw [← HNN.out.2, ← HNN.out.1] at c3
            go_big_region
            clear c1a c1b c2a c2b c3
            have HRW : Hid (((w51.setCell ⟨g, iN, none⟩ (.string y)).setCell ⟨g, jN, none⟩ (.string x)).drew.heap[g]? = some (.cells (rowA (swp dj j (j - 1)) rest) 9)) := Lib.hid (by
              rw [HNN.out.1, HNN.out.2, HXY.out.1, HXY.out.2.1]
              exact row_swap M51.1 j (j - 1) hiS hjS)
            have HKW : Hid (KF (fun b => b = g) w ((w51.setCell ⟨g, iN, none⟩ (.string y)).setCell ⟨g, jN, none⟩ (.string x)).drew) := Lib.hid (hB51.trans kf_swap)
            generalize ((w51.setCell ⟨g, iN, none⟩ (.string y)).setCell ⟨g, jN, none⟩ (.string x)).drew = w60 at HRW HKW ⊢
            clear ea ec
            have HSW : Hid (AllOk (swp dj j (j - 1))) := Lib.hid (allOk_swp HSJ.out hiS hjS)
            have HIW : Hid (insInner ltB 0 (j - 1) (swp dj j (j - 1)) = insInner ltB 0 i dk) := Lib.hid (by
              rw [← HI.out]
              exact (insInner_go ltB 0 j dj hja (by unfold ltB; rw [← HXY.out.1, ← HXY.out.2.1, ← HXY.out.2.2.1]; exact hd)).symm)
            go_wp2_with fail
            go_roundw
            case rel => exact ⟨j - 1, swp dj j (j - 1), by first | rfl | go_num | (congr 1; omega), by omega, Lib.hid (by rw [size_swp]; exact HDJ.out), HSW, HKW, ⟨HRW.out, trivial⟩, HIW⟩
            case measure => have := HXY.out.2.2.2; simp [intOf]; omega
          · have hd : decide (r < 0) = false := decide_eq_false hr0
            go_upto_region 4 with (fail)
            refine wp_region_after (by kernel_rfl) (by kernel_rfl) ?_
            repeat (go_big_quiet_step ((go_at_call 33; with_reducible exact After.call (HORD.out _ ((LaidF.after hw50 _)).laid))))
            refine wpQuiet_nil ?_
            rintro _ ⟨p50, rfl⟩
            clear z50_0
            obtain ⟨w51, hW51⟩ : ∃ x, x = p50.world := ⟨_, rfl⟩
            have hB51 : KF (fun b => b = g) w w51 := by rw [hW51]; exact kf_then hB50 p50.h
            have hw51 : LaidF (fun b => b = g) w51 := by rw [hW51]; exact hw50.below p50.h
            have M51 := M50.below p50.h
            rw [← hW51] at M51
            rw [← hW51]
            clear hW51
            clear p50
            have z51_0 := Mem.lt M51.1
            clear ca cb ea ec
            have HB := Lib.hid hB51
            have HM := Lib.hid M51
            have HOW := Lib.hid (OUT.out (.inr (by unfold ltB; rw [← HXY.out.1, ← HXY.out.2.1, ← HXY.out.2.2.1]; exact hd)))
            go_wp2_with fail
            go_roundw
            case rel => exact ⟨i + 1, dj, by go_num, by omega, by omega, HDJ, HSJ, HB, HM.out, HOW⟩
            case measure => simp [intOf]; omega
        · have hj0 : j = 0 := by omega
          subst hj0
          have hjad : decide ((0 : Int) > 0) = false := rfl
          go_upto_region 4 with (fail)
          refine wp_region_after (by kernel_rfl) (by kernel_rfl) ?_
          repeat (go_big_quiet_step (((fail))))
          refine wpQuiet_nil ?_
          rintro _ ⟨p50, rfl⟩
          clear z50_0
          obtain ⟨w51, hW51⟩ : ∃ x, x = p50.world := ⟨_, rfl⟩
          have hB51 : KF (fun b => b = g) w w51 := by rw [hW51]; exact kf_then hB50 p50.h
          have hw51 : LaidF (fun b => b = g) w51 := by rw [hW51]; exact hw50.below p50.h
          have M51 := M50.below p50.h
          rw [← hW51] at M51
          rw [← hW51]
          clear hW51
          clear p50
          have z51_0 := Mem.lt M51.1
          have HB := Lib.hid hB51
          have HM := Lib.hid M51
          have HOW := Lib.hid (OUT.out (.inl rfl))
          go_wp2_with fail
          go_roundw
          case rel => exact ⟨i + 1, dj, by go_num, by omega, by omega, HDJ, HSJ, HB, HM.out, HOW⟩
          case measure => simp [intOf]; omega
    · have hltz : ¬ (i : Int) < (n : Int) := by omega
      go_wp2_with fail
      go_end0
      exact ⟨rfl, HKF.out, by unfold insertionSort; rw [← HO.out, insOuter_stop _ _ _ _ _ hlt]; exact hM.1⟩
end Go.Proofs.YtlkgcidhhngfeaaGreatDoor
