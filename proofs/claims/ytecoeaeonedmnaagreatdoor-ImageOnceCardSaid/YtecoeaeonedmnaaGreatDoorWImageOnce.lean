/- What is got may be, and is put as the bytes that it was got of; with a byte more, or its last one less, these are none. The walk: the law answers true; no memory that was there is turned. Conditions: the listed package variables hold what the program's text lays; every other argument of the parameter types. -/
import Derived.Test.YtecoeaeonedmnaaGreatDoorZ6
import Derived.StillTailTactics
import Derived.Laws.IdiomStrings
import Derived.Laws.BytesArg
namespace Go.Proofs.YtecoeaeonedmnaaGreatDoor
open Go.RowKit
def numsOf (P : ByteArray) : List Int := P.data.toList.map fun b => (b.toNat : Int)
theorem numsOf_len (P : ByteArray) : (numsOf P).length = P.size := by
  unfold numsOf
  rw [List.length_map]
  exact Array.length_toList
theorem bytes_row (P : ByteArray) (c : Nat) (i : Nat) (hi : i < P.size) : (bytesRow P c)[i]? = some (.int .u8 ((numsOf P).getD i 0)) := by
  have h1 : i < (P.data.map fun b => Value.int .u8 b.toNat).size := by rw [Array.size_map]; exact hi
  unfold bytesRow
  rw [Array.getElem?_append_left h1, Array.getElem?_map, Array.getElem?_eq_getElem (show i < P.data.size from hi), List.getD_eq_getElem?_getD]
  unfold numsOf
  rw [List.getElem?_map, Array.getElem?_toList, Array.getElem?_eq_getElem (show i < P.data.size from hi)]
  rfl
theorem free_below {W : World} {b n m : Nat} {cs : Array Value} {T : TypeId} (h : W.heap[b]? = some (.cells cs T (n, m))) (i : Nat) (hi : i < n) : W.frozen? ⟨b, i, none⟩ = false := by
  unfold World.frozen?
  rw [h]
  simp
  omega
theorem strOfNums_one (n : Int) : (strOfNums [n]).data.toList = [UInt8.ofNat n.toNat] := rfl
theorem add_data (a b : ByteArray) : (a ++ b).data.toList = a.data.toList ++ b.data.toList := by
  rw [ByteArray.data_append, Array.toList_append]
theorem cutLast (t : ByteArray) (ht : 0 < t.size) (W : World) : (Instr.slice 9 (.string t) none (some (.int .i64 ((t.size : Int) - 1))) none).run Tryz.prog W = .ok (.string (t.extract 0 (t.size - 1))) W := by
  have h := run_slice_string_h (P := Tryz.prog) (w := W) 9 t Tryz.underlying9 .i64 ((t.size : Int) - 1) (by omega) (by omega)
  rw [h, show ((t.size : Int) - 1).toNat = t.size - 1 by omega]
theorem cutLast_data (t : ByteArray) : (t.extract 0 (t.size - 1)).data.toList = t.data.toList.take (t.data.toList.length - 1) := by
  rw [ByteArray.data_extract, Array.toList_extract, List.extract_eq_take_drop, List.drop_zero, Nat.sub_zero, Array.length_toList]
  rfl
/-- bytes in a block -/
def RowAt (w : World) (b n : Nat) (xs : List Int) : Prop := xs.length = n ∧ ∃ (cur : Array Value) (fr : Nat × Nat), w.heap[b]? = some (.cells cur 5 fr) ∧ n ≤ fr.1 ∧ ∀ i, i < n → cur[i]? = some (.int .u8 (xs.getD i 0))
theorem RowAt.below {w w' : World} {b n : Nat} {xs : List Int} (h : RowAt w b n xs) (hb : Below w.heap.size w w') : RowAt w' b n xs := by
  obtain ⟨h0, cur, fr, h1, h2⟩ := h
  exact ⟨h0, cur, fr, (hb.block _ (Mem.lt h1)).trans h1, h2⟩
theorem RowAt.cell {w : World} {b n : Nat} {xs : List Int} (h : RowAt w b n xs) (i : Nat) (hi : i < n) : w.cell? ⟨b, i, none⟩ = some (.int .u8 (xs.getD i 0)) := by
  obtain ⟨_, cur, fr, h1, _, h2⟩ := h
  exact Mem.cell h1 i (h2 i hi)
theorem RowAt.free {w : World} {b n : Nat} {xs : List Int} (h : RowAt w b n xs) (i : Nat) (hi : i < n) : w.frozen? ⟨b, i, none⟩ = false := by
  obtain ⟨_, cur, fr, h1, h2, _⟩ := h
  exact free_below (n := fr.1) (m := fr.2) h1 i (by omega)
theorem RowAt.lt {w : World} {b n : Nat} {xs : List Int} (h : RowAt w b n xs) : b < w.heap.size := by
  obtain ⟨_, cur, fr, h1, _⟩ := h
  exact Mem.lt h1
theorem RowAt.set {w : World} {b n : Nat} {xs : List Int} (h : RowAt w b n xs) (j : Nat) (y : Int) : RowAt (w.setCell ⟨b, j, none⟩ (.int .u8 y)) b n (xs.set j y) := by
  obtain ⟨h0, cur, fr, h1, h2, h3⟩ := h
  refine ⟨by rw [List.length_set]; exact h0, _, fr, setCell_block h1 _, h2, fun i hi => ?_⟩
  have h4 := h3 i hi
  by_cases e : j = i
  · subst e
    have hl := (Array.getElem?_eq_some_iff.1 h4).1
    rw [Array.getElem?_setIfInBounds_self_of_lt hl, List.getD_eq_getElem?_getD, List.getElem?_set_self (by omega)]
    rfl
  · rw [Array.getElem?_setIfInBounds_ne e, h4, List.getD_eq_getElem?_getD, List.getD_eq_getElem?_getD, List.getElem?_set_ne e]
set_option maxRecDepth 100000 in
set_option maxHeartbeats 8000000 in
theorem imageOnce_walk (v : Value) (ll : List (List UInt8)) (k x : Int) (s : ByteArray) (mo : Int) (hk : 0 ≤ k ∧ k ≤ 65535) (_ : 0 ≤ x ∧ x ≤ 255) (hs : s.size ≤ 140737488351232) (hmo : 0 ≤ mo ∧ mo ≤ 255) (w : World) (hL : LsAt w v ll) (hw : LaidI w) :
    Calls Tryz.prog 4 #[v, .int .u16 k, .int .u8 x, .string s, .int .u8 mo] w fun e w' => e = .returned (.bool true) ∧ Below w.heap.size w w' := by
  obtain ⟨vo, vc, rfl⟩ := hL.slice
  obtain ⟨kk, rfl⟩ : ∃ n : Nat, k = n := ⟨k.toNat, by omega⟩
  have HL := Lib.hid hL
  clear hL
  go_enter Tryz.func4, Tryz.ntmps4
  have hB0 := Below.refl w.heap.size w
  have M0 := Mem.nil w
  have hw0 := hw
  go_wp2_with fail
  refine Calls.named ?_
  intro W1 hW1
  have hB1_ : Below w.heap.size w W1 := by rw [hW1]; exact hB0
  have hw1_ : LaidI W1 := by rw [hW1]; exact hw
  have M1_ := Mem.nil W1
  clear hW1
  refine (examples_any _ hw1_).mono ?_
  rintro e w1 ⟨rfl, hb1⟩
  have hB1 := below_then hB1_ hb1
  have hw1 := hw1_.below hb1
  have M1 := M1_.below hb1
  clear M1_ hB1_ hb1 hw1_
  go_wp2_with fail
  refine Calls.named ?_
  intro W2 hW2
  have hB2_ : Below w.heap.size w W2 := by rw [hW2]; exact hB1
  have hw2_ : LaidI W2 := by rw [hW2]; exact hw1
  have M2_ := Mem.nil W2
  clear hW2
  refine (made_c _ _ _ (HL.out.below hB2_)).mono ?_
  rintro e w2 ⟨fa, ca, xa, pa, ya, rfl, hA, hb2⟩
  have hB2 := below_then hB2_ hb2
  have hw2 := hw2_.below hb2
  have M2 := M2_.below hb2
  clear M2_ hB2_ hb2 hw2_
  have hck := made_check hA.len hA.good
  have hle := imput_le hck
  obtain ⟨P, hP⟩ : ∃ P : ByteArray, P = ⟨(Im.mk madeCs fa).put0.toArray⟩ := ⟨_, rfl⟩
  have hPl : P.data.toList = (Im.mk madeCs fa).put := by rw [hP, Im.put0, if_pos hck]
  have hPs : 0 < P.size ∧ P.size ≤ 40000 := by
    have h1 : P.data.toList.length = P.size := Array.length_toList
    have h2 := put_len_pos ⟨madeCs, fa⟩
    rw [hPl] at h1
    omega
  have hsz : Im.sized ⟨madeCs, fa⟩ := madeCs_ok
  replace hA := hA.at
  have HSZ := Lib.hid hsz
  have HP := Lib.hid hP
  clear hck hle hsz hP hPl
  go_wp2_with fail
  refine Calls.named ?_
  intro W3 hW3
  have hB3_ : Below w.heap.size w W3 := by rw [hW3]; exact hB2
  have hw3_ : LaidI W3 := by rw [hW3]; exact hw2
  have M3_ := Mem.nil W3
  have hS3 : Below w2.heap.size w2 W3 := by rw [hW3]; exact (Below.refl _ _)
  have hA_ := ImAt.below hA hS3
  clear hS3 hA
  clear hW3
  refine (put_im _ _ _ HSZ.out _ hw3_ hA_ P HP.out).mono ?_
  rintro e w3 ⟨rfl, hb3⟩
  have hA := ImAt.below hA_ hb3
  clear hA_
  have hB3 := below_then hB3_ hb3
  have hw3 := hw3_.below hb3
  have M3 := M3_.below hb3
  clear M3_ hB3_ hb3 hw3_
  clear hA
  have hcv := run_bytes_of_string (P := Tryz.prog) w3 9 38 5 P Tryz.underlying9 Tryz.underlying38 Tryz.underlying5
  go_upto_region 6 with (fail)
  obtain ⟨c, hc⟩ : ∃ c, c = grownCap w3 P.size 0 5 := ⟨_, rfl⟩
  rw [← hc]
  refine wp_named ?_
  intro w4 hW4
  have hB4 : Below w.heap.size w w4 := by rw [hW4]; exact below_dr (below_al hB3 _)
  have hw4 : LaidI w4 := hw.below hB4
  have M4 := Mem.nil w4
  have hR : RowAt w4 w3.heap.size P.size (numsOf P) := by
    refine ⟨numsOf_len P, bytesRow P c, ((bytesRow P c).size, (bytesRow P c).size + 1), ?_, ?_, bytes_row P c⟩
    · rw [hW4]
      exact heap_alloc_new w3 _
    · show P.size ≤ (bytesRow P c).size
      unfold bytesRow
      rw [Array.size_append, Array.size_map]
      exact Nat.le_add_right _ _
  obtain ⟨j, hj⟩ : ∃ j, j = kk % P.size := ⟨_, rfl⟩
  have hjl : j < P.size := by rw [hj]; exact Nat.mod_lt _ hPs.1
  have ej : (kk : Int) % (P.size : Int) = (j : Int) := by rw [hj]; rfl
  have gj0 : (0 : Int) ≤ (j : Int) := by omega
  have gj1 : (j : Int) < (P.size : Int) := by omega
  obtain ⟨y0, hy0⟩ : ∃ y, y = (numsOf P).getD j 0 := ⟨_, rfl⟩
  have dR := hR.cell j hjl
  rw [← hy0] at dR
  have fR := hR.free j hjl
  have hz34 : w.heap.size ≤ w3.heap.size := hB3.size
  have hk1 : kk < 65536 := by omega
  have hwk : IntKind.i64.wrap (kk : Int) = kk := IntWalk.i64_in _ (by omega)
  have hp0 := hPs.1
  have hp1 := hPs.2
  have hp2 : (P.size : Int) ≠ 0 := by omega
  have htm : (kk : Int).tmod (P.size : Int) = (j : Int) := by rw [Int.tmod_eq_emod_of_nonneg (by omega), ej]
  have hPe : ¬ P = ByteArray.empty := fun e => by
    rw [e] at hp0
    simp at hp0
  clear hc hW4 hj hy0 hcv hk ej hp2 
  go_still_tail 16, (by kernel_rfl)
  change wpList _ _ _ _ _ w4.drew
  obtain ⟨w5, hW5⟩ : ∃ x, x = w4.drew := ⟨_, rfl⟩
  have hB5 : Below w.heap.size w w5 := by rw [hW5]; exact below_dr hB4
  have hw5 : LaidI w5 := hw0.below hB5
  have M5 := Mem.drew M4
  rw [← hW5] at M5
  rw [← hW5]
  replace hR := RowAt.below hR (below_dr (Below.refl _ w4))
  rw [← hW5] at hR
  clear hW5
  have dR := hR.cell j hjl
  have fR := hR.free j hjl
  go_upto_region 7 with (fail)
  refine wp_named ?_
  intro w6 hW6
  have hE6 : w6 = w5.setCells w3.heap.size j [.int .u8 (Go.bits .xor .u8 y0 x)] := hW6
  have hB6 : Below w.heap.size w w6 := by rw [hE6]; exact below_setCells hB5 hz34 _ _
  have hw6 : LaidI w6 := hw.below hB6
  have M6 := Mem.nil w6
  have hR6 := hR.set j (Go.bits .xor .u8 y0 x)
  rw [← hW6] at hR6
  obtain ⟨xs, hxs⟩ : ∃ xs, xs = (numsOf P).set j (Go.bits .xor .u8 y0 x) := ⟨_, rfl⟩
  rw [← hxs] at hR6
  obtain ⟨T2, hT2⟩ : ∃ T, T = strOfNums xs := ⟨_, rfl⟩
  have hT2s : T2.size ≤ 140737488351232 := by
    have := hR6.1
    rw [hT2, strOfNums_size]
    omega
  have hcv2 := run_convert_bytes_arg (P := Tryz.prog) w6 38 5 Tryz.underlying38 Tryz.underlying5 w3.heap.size 0 P.size c xs hR6.1 (fun i hi => by rw [Nat.zero_add]; exact hR6.cell i hi) 9 Tryz.underlying9
  rw [← hT2] at hcv2
  clear hE6 hR6 hxs hT2 hW6 hR dR fR gj0 gj1 htm hPe hjl hwk
  go_upto_region 8 with (fail)
  refine wp_named ?_
  intro w7 hW7
  have hB7 : Below w.heap.size w w7 := by rw [hW7]; exact (below_al hB6 _)
  have hw7 : LaidI w7 := by rw [hW7]; exact (hw6.alloc _)
  have M7 := (M6).new' (w6.heap.size) (by rfl) (.cells #[.string s, .string T2] 9)
  rw [← hW7] at M7
  clear hW7
  have c7_0_0 := Mem.cell (v := .string s) M7.1 0 rfl
  have c7_0_1 := Mem.cell (v := .string T2) M7.1 1 rfl
  have z7_0 := Mem.lt M7.1
  have HMB := Lib.hid M7.1
  have HB7 := Lib.hid hB7
  have hmo0 := hmo.1
  have hmo1 := hmo.2
  go_wp2_with fail
  go_loopw [53] (fun s53 wr => ∃ q : Nat, q ≤ 2 ∧ s53 = .int .i64 q ∧ Below w.heap.size w wr ∧ wr.heap[w6.heap.size]? = some (.cells #[.string s, .string T2] 9)) (fun s53 _ => 2 - (intOf s53).toNat)
  case atStart => exact ⟨0, by omega, rfl, HB7.out, HMB.out⟩
  case round =>
    clear HB7 HMB
    obtain ⟨q, hq, rfl, hb, hbk⟩ := hrel
    obtain ⟨w8, rfl⟩ : ∃ x, x = wr := ⟨_, rfl⟩
    by_cases hlt : q < 2
    · have g0 : (0 : Int) ≤ (q : Int) := by omega
      have g1 : (q : Int) < 2 := by omega
      obtain ⟨t, hts, dt⟩ : ∃ t : ByteArray, t.size ≤ 140737488351232 ∧ w8.cell? ⟨w6.heap.size, q, none⟩ = some (.string t) := by
        rcases (show q = 0 ∨ q = 1 by omega) with rfl | rfl
        · exact ⟨s, hs, Mem.cell hbk 0 rfl⟩
        · exact ⟨T2, hT2s, Mem.cell hbk 1 rfl⟩
      have hB8 := hb
      have hw8 : LaidI w8 := hw.below hb
      have M8 : Mem w8 [(w6.heap.size, .cells #[.string s, .string T2] 9)] := ⟨hbk, trivial⟩
      clear hb hbk
      have hgs : ∀ n, n ≤ t.size + 1 → n ≤ 1152921504606846976 := by omega
      have HGS := Lib.hid hgs
      clear hgs
      cases hR : getIm t.data.toList with
      | none =>
        have HR := Lib.hid hR
        clear hR
        have c8_0_0 := Mem.cell (v := .string s) M8.1 0 rfl
        have c8_0_1 := Mem.cell (v := .string T2) M8.1 1 rfl
        have z8_0 := Mem.lt M8.1
        go_wp2_with fail
        refine Calls.named ?_
        intro W9 hW9
        have hB9_ : Below w.heap.size w W9 := by rw [hW9]; exact hB8
        have hw9_ : LaidI W9 := by rw [hW9]; exact hw8
        have M9_ := M8
        rw [← hW9] at M9_
        clear hW9
        have ZZ9_0 := Lib.hid (Mem.lt M9_.1)
        clear c8_0_0 c8_0_1 z8_0
        refine (get_no t _ hw9_ (HGS.out _ (Nat.le_succ _)) HR.out).mono ?_
        rintro e w9 ⟨rfl, hb9⟩
        have hB9 := below_then hB9_ hb9
        have hw9 := hw9_.below hb9
        have M9 := M9_.below hb9
        clear M9_ hB9_ hb9 hw9_
        have c9_0_0 := Mem.cell (v := .string s) M9.1 0 rfl
        have c9_0_1 := Mem.cell (v := .string T2) M9.1 1 rfl
        have z9_0 := Mem.lt M9.1
        have HB9 := Lib.hid hB9
        have HM9 := Lib.hid M9
        clear dt
        go_wp2_with fail
        go_roundw
        case rel => exact ⟨q + 1, by omega, by go_num, below_al HB9.out _, (HM9.out.al _).1⟩
        case measure => simp [intOf]; omega
      | some im =>
        obtain ⟨e1, e2, e3, _⟩ := get_some hR
        have hpos : 0 < t.size := by
          have h1 := put_len_pos im
          rw [e2, Array.length_toList] at h1
          exact h1
        obtain ⟨n, hn⟩ : ∃ n, im.cs.length = n := ⟨_, rfl⟩
        obtain ⟨m, hm⟩ : ∃ m, im.fs.length = m := ⟨_, rfl⟩
        obtain ⟨Y, hY⟩ : ∃ Y, Y = strOfNums [mo] := ⟨_, rfl⟩
        have hlong : getIm (t ++ Y).data.toList = none := by
          rw [add_data, hY, strOfNums_one]
          exact get_long hR _
        have hlsz : (t ++ Y).size = t.size + 1 := by rw [ByteArray.size_append, hY, strOfNums_size]; rfl
        obtain ⟨Z, hZ⟩ : ∃ Z, Z = t.extract 0 (t.size - 1) := ⟨_, rfl⟩
        have hshort : getIm Z.data.toList = none := by
          rw [hZ, cutLast_data]
          exact get_short hR
        have hZs : Z.size ≤ t.size + 1 := by
          have : Z.data.toList.length = Z.size := Array.length_toList
          rw [hZ, cutLast_data, List.length_take, Array.length_toList] at this
          rw [hZ]
          have h2 : t.data.size = t.size := rfl
          omega
        have hcut := cutLast t hpos
        rw [← hZ] at hcut
        have hput : t = ⟨im.put0.toArray⟩ := by
          rw [Im.put0, if_pos e1, e2, Array.toArray_toList]
        have hYs : Y.size = 1 := by rw [hY, strOfNums_size]; rfl
        have HR := Lib.hid hR
        have HSZ2 := Lib.hid (may_sized e3)
        have HE1 := Lib.hid e1
        have HN := Lib.hid hn
        have HM := Lib.hid hm
        have HLONG := Lib.hid hlong
        have HSHORT := Lib.hid hshort
        have HLS := Lib.hid hlsz
        have HZS := Lib.hid hZs
        have HPUT := Lib.hid hput
        have HY := Lib.hid hY
        clear hR e1 e2 e3 hn hm hlong hshort hlsz hZs hZ hput hY
        have c8_0_0 := Mem.cell (v := .string s) M8.1 0 rfl
        have c8_0_1 := Mem.cell (v := .string T2) M8.1 1 rfl
        have z8_0 := Mem.lt M8.1
        go_wp2_with fail
        refine Calls.named ?_
        intro W9 hW9
        have hB9_ : Below w.heap.size w W9 := by rw [hW9]; exact hB8
        have hw9_ : LaidI W9 := by rw [hW9]; exact hw8
        have M9_ := M8
        rw [← hW9] at M9_
        clear hW9
        have ZZ9_0 := Lib.hid (Mem.lt M9_.1)
        clear c8_0_0 c8_0_1 z8_0
        refine (get_im t im _ hw9_ (HGS.out _ (Nat.le_succ _)) n m HN.out HM.out HR.out).mono ?_
        rintro e w9 ⟨cg, xg, pg, yg, rfl, hG, hb9⟩
        have hB9 := below_then hB9_ hb9
        have hw9 := hw9_.below hb9
        have M9 := M9_.below hb9
        clear M9_ hB9_ hb9 hw9_
        have c9_0_0 := Mem.cell (v := .string s) M9.1 0 rfl
        have c9_0_1 := Mem.cell (v := .string T2) M9.1 1 rfl
        have z9_0 := Mem.lt M9.1
        go_upto_region 12 with (fail)
        refine wp_named ?_
        intro w10 hW10
        have hB10 : Below w.heap.size w w10 := by rw [hW10]; exact (below_al hB9 _)
        have hw10 : LaidI w10 := by rw [hW10]; exact (hw9.alloc _)
        have M10 := (M9).new' (w9.heap.size) (by rfl) (.cells #[.slice cg n xg, .slice pg m yg] 25)
        rw [← hW10] at M10
        have hS10 : Below w9.heap.size w9 w10 := by rw [hW10]; exact (below_al (Below.refl _ _) _)
        replace hG := ImAt.below hG hS10
        clear hS10
        clear c9_0_0 c9_0_1 z9_0
        clear hW10
        have c10_0_0 := Mem.cell (v := .slice cg n xg) M10.1 0 rfl
        have c10_0_1 := Mem.cell (v := .slice pg m yg) M10.1 1 rfl
        have z10_0 := Mem.lt M10.1
        have c10_1_0 := Mem.cell (v := .string s) M10.2.1 0 rfl
        have c10_1_1 := Mem.cell (v := .string T2) M10.2.1 1 rfl
        have z10_1 := Mem.lt M10.2.1
        have hcell3 : ∀ i, i < 1 → (w10.alloc (.cells #[.int .u8 mo] 5)).cell? ⟨w10.heap.size, 0 + i, none⟩ = some (.int .u8 ([mo].getD i 0)) := by
          intro i hi
          obtain rfl : i = 0 := by omega
          exact Mem.cell (heap_alloc_new w10 (.cells #[.int .u8 mo] 5)) 0 rfl
        have hcv3 := run_convert_bytes_arg (P := Tryz.prog) (w10.alloc (.cells #[.int .u8 mo] 5)) 38 5 Tryz.underlying38 Tryz.underlying5 w10.heap.size 0 1 1 [mo] rfl hcell3 9 Tryz.underlying9
        clear hcell3
        rw [← HY.out] at hcv3
        have hts2 : t.size ≤ 140737488351232 := hts
        go_wp2_with fail
        refine Calls.named ?_
        intro W11 hW11
        have hB11_ : Below w.heap.size w W11 := by rw [hW11]; exact (below_al hB10 _)
        have hw11_ : LaidI W11 := by rw [hW11]; exact (hw10.alloc _)
        have M11_ := (M10).new' (w10.heap.size) (by rfl) (.cells #[.int .u8 mo] 5)
        rw [← hW11] at M11_
        have hS11 : Below w10.heap.size w10 W11 := by rw [hW11]; exact (below_al (Below.refl _ _) _)
        have hG_ := ImAt.below hG hS11
        clear hS11 hG
        clear hW11
        have ZZ11_0 := Lib.hid (Mem.lt M11_.1)
        have ZZ11_1 := Lib.hid (Mem.lt M11_.2.1)
        have ZZ11_2 := Lib.hid (Mem.lt M11_.2.2.1)
        clear c10_0_0 c10_0_1 z10_0 c10_1_0 c10_1_1 z10_1
        refine (get_no (t ++ Y) _ hw11_ (HGS.out _ (Nat.le_of_eq HLS.out)) HLONG.out).mono ?_
        rintro e w11 ⟨rfl, hb11⟩
        have hG := ImAt.below hG_ hb11
        clear hG_
        have hB11 := below_then hB11_ hb11
        have hw11 := hw11_.below hb11
        have M11 := M11_.below hb11
        clear M11_ hB11_ hb11 hw11_
        have c11_0_0 := Mem.cell (v := .int .u8 mo) M11.1 0 rfl
        have z11_0 := Mem.lt M11.1
        have c11_1_0 := Mem.cell (v := .slice cg n xg) M11.2.1 0 rfl
        have c11_1_1 := Mem.cell (v := .slice pg m yg) M11.2.1 1 rfl
        have z11_1 := Mem.lt M11.2.1
        have c11_2_0 := Mem.cell (v := .string s) M11.2.2.1 0 rfl
        have c11_2_1 := Mem.cell (v := .string T2) M11.2.2.1 1 rfl
        have z11_2 := Mem.lt M11.2.2.1
        clear hcv3
        go_wp2_with fail
        refine Calls.named ?_
        intro W12 hW12
        have hB12_ : Below w.heap.size w W12 := by rw [hW12]; exact (below_al hB11 _)
        have hw12_ : LaidI W12 := by rw [hW12]; exact (hw11.alloc _)
        have M12_ := (M11).new' (w11.heap.size) (by rfl) (.cells #[.slice none 0 0, .slice none 0 0] 25)
        rw [← hW12] at M12_
        have hS12 : Below w11.heap.size w11 W12 := by rw [hW12]; exact (below_al (Below.refl _ _) _)
        have hG_ := ImAt.below hG hS12
        clear hS12 hG
        clear hW12
        have ZZ12_0 := Lib.hid (Mem.lt M12_.1)
        have ZZ12_1 := Lib.hid (Mem.lt M12_.2.1)
        have ZZ12_2 := Lib.hid (Mem.lt M12_.2.2.1)
        have ZZ12_3 := Lib.hid (Mem.lt M12_.2.2.2.1)
        clear c11_0_0 z11_0 c11_1_0 c11_1_1 z11_1 c11_2_0 c11_2_1 z11_2
        refine (get_no Z _ hw12_ (HGS.out _ HZS.out) HSHORT.out).mono ?_
        rintro e w12 ⟨rfl, hb12⟩
        have hG := ImAt.below hG_ hb12
        clear hG_
        have hB12 := below_then hB12_ hb12
        have hw12 := hw12_.below hb12
        have M12 := M12_.below hb12
        clear M12_ hB12_ hb12 hw12_
        have c12_0_0 := Mem.cell (v := .slice none 0 0) M12.1 0 rfl
        have c12_0_1 := Mem.cell (v := .slice none 0 0) M12.1 1 rfl
        have z12_0 := Mem.lt M12.1
        have c12_1_0 := Mem.cell (v := .int .u8 mo) M12.2.1 0 rfl
        have z12_1 := Mem.lt M12.2.1
        have c12_2_0 := Mem.cell (v := .slice cg n xg) M12.2.2.1 0 rfl
        have c12_2_1 := Mem.cell (v := .slice pg m yg) M12.2.2.1 1 rfl
        have z12_2 := Mem.lt M12.2.2.1
        have c12_3_0 := Mem.cell (v := .string s) M12.2.2.2.1 0 rfl
        have c12_3_1 := Mem.cell (v := .string T2) M12.2.2.2.1 1 rfl
        have z12_3 := Mem.lt M12.2.2.2.1
        go_wp2_with fail
        refine Calls.named ?_
        intro W13 hW13
        have hB13_ : Below w.heap.size w W13 := by rw [hW13]; exact (below_al hB12 _)
        have hw13_ : LaidI W13 := by rw [hW13]; exact (hw12.alloc _)
        have M13_ := (M12).new' (w12.heap.size) (by rfl) (.cells #[.slice none 0 0, .slice none 0 0] 25)
        rw [← hW13] at M13_
        have hS13 : Below w12.heap.size w12 W13 := by rw [hW13]; exact (below_al (Below.refl _ _) _)
        have hG_ := ImAt.below hG hS13
        clear hS13 hG
        clear hW13
        have ZZ13_0 := Lib.hid (Mem.lt M13_.1)
        have ZZ13_1 := Lib.hid (Mem.lt M13_.2.1)
        have ZZ13_2 := Lib.hid (Mem.lt M13_.2.2.1)
        have ZZ13_3 := Lib.hid (Mem.lt M13_.2.2.2.1)
        have ZZ13_4 := Lib.hid (Mem.lt M13_.2.2.2.2.1)
        clear c12_0_0 c12_0_1 z12_0 c12_1_0 z12_1 c12_2_0 c12_2_1 z12_2 c12_3_0 c12_3_1 z12_3
        refine (check_im im _ _ HSZ2.out _ hw13_ hG_ 0 HE1.out).mono ?_
        rintro e w13 ⟨rfl, hb13⟩
        have hG := ImAt.below hG_ hb13
        clear hG_
        have hB13 := below_then hB13_ hb13
        have hw13 := hw13_.below hb13
        have M13 := M13_.below hb13
        clear M13_ hB13_ hb13 hw13_
        have c13_0_0 := Mem.cell (v := .slice none 0 0) M13.1 0 rfl
        have c13_0_1 := Mem.cell (v := .slice none 0 0) M13.1 1 rfl
        have z13_0 := Mem.lt M13.1
        have c13_1_0 := Mem.cell (v := .slice none 0 0) M13.2.1 0 rfl
        have c13_1_1 := Mem.cell (v := .slice none 0 0) M13.2.1 1 rfl
        have z13_1 := Mem.lt M13.2.1
        have c13_2_0 := Mem.cell (v := .int .u8 mo) M13.2.2.1 0 rfl
        have z13_2 := Mem.lt M13.2.2.1
        have c13_3_0 := Mem.cell (v := .slice cg n xg) M13.2.2.2.1 0 rfl
        have c13_3_1 := Mem.cell (v := .slice pg m yg) M13.2.2.2.1 1 rfl
        have z13_3 := Mem.lt M13.2.2.2.1
        have c13_4_0 := Mem.cell (v := .string s) M13.2.2.2.2.1 0 rfl
        have c13_4_1 := Mem.cell (v := .string T2) M13.2.2.2.2.1 1 rfl
        have z13_4 := Mem.lt M13.2.2.2.2.1
        go_wp2_with fail
        refine Calls.named ?_
        intro W14 hW14
        have hB14_ : Below w.heap.size w W14 := by rw [hW14]; exact hB13
        have hw14_ : LaidI W14 := by rw [hW14]; exact hw13
        have M14_ := M13
        rw [← hW14] at M14_
        have hS14 : Below w13.heap.size w13 W14 := by rw [hW14]; exact (Below.refl _ _)
        have hG_ := ImAt.below hG hS14
        clear hS14 hG
        clear hW14
        have ZZ14_0 := Lib.hid (Mem.lt M14_.1)
        have ZZ14_1 := Lib.hid (Mem.lt M14_.2.1)
        have ZZ14_2 := Lib.hid (Mem.lt M14_.2.2.1)
        have ZZ14_3 := Lib.hid (Mem.lt M14_.2.2.2.1)
        have ZZ14_4 := Lib.hid (Mem.lt M14_.2.2.2.2.1)
        clear c13_0_0 c13_0_1 z13_0 c13_1_0 c13_1_1 z13_1 c13_2_0 z13_2 c13_3_0 c13_3_1 z13_3 c13_4_0 c13_4_1 z13_4
        refine (put_im im _ _ HSZ2.out _ hw14_ hG_ t HPUT.out).mono ?_
        rintro e w14 ⟨rfl, hb14⟩
        have hG := ImAt.below hG_ hb14
        clear hG_
        have hB14 := below_then hB14_ hb14
        have hw14 := hw14_.below hb14
        have M14 := M14_.below hb14
        clear M14_ hB14_ hb14 hw14_
        have c14_0_0 := Mem.cell (v := .slice none 0 0) M14.1 0 rfl
        have c14_0_1 := Mem.cell (v := .slice none 0 0) M14.1 1 rfl
        have z14_0 := Mem.lt M14.1
        have c14_1_0 := Mem.cell (v := .slice none 0 0) M14.2.1 0 rfl
        have c14_1_1 := Mem.cell (v := .slice none 0 0) M14.2.1 1 rfl
        have z14_1 := Mem.lt M14.2.1
        have c14_2_0 := Mem.cell (v := .int .u8 mo) M14.2.2.1 0 rfl
        have z14_2 := Mem.lt M14.2.2.1
        have c14_3_0 := Mem.cell (v := .slice cg n xg) M14.2.2.2.1 0 rfl
        have c14_3_1 := Mem.cell (v := .slice pg m yg) M14.2.2.2.1 1 rfl
        have z14_3 := Mem.lt M14.2.2.2.1
        have c14_4_0 := Mem.cell (v := .string s) M14.2.2.2.2.1 0 rfl
        have c14_4_1 := Mem.cell (v := .string T2) M14.2.2.2.2.1 1 rfl
        have z14_4 := Mem.lt M14.2.2.2.2.1
        have htt : (t.toList == t.toList) = true := by simp
        have HBE := Lib.hid hB14
        have HME := Lib.hid M14
        clear dt
        go_wp2_with fail
        go_roundw
        case rel => exact ⟨q + 1, by omega, by go_num, HBE.out, HME.out.2.2.2.2.1⟩
        case measure => simp [intOf]; omega
    · have hge : (2 : Int) ≤ (q : Int) := by omega
      have HB := Lib.hid hb
      clear hb hbk
      go_wp2_with fail
      go_ret
      exact ⟨rfl, HB.out⟩
end Go.Proofs.YtecoeaeonedmnaaGreatDoor
