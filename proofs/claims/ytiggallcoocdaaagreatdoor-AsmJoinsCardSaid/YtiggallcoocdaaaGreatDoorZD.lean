/- AEx, ALines, ASlc: joined into one text; each part says below what it holds. -/
import Derived.Test.YtiggallcoocdaaaGreatDoorLaw11
import Derived.Test.YtiggallcoocdaaaGreatDoorZ6
/- The chapter's examples. -/
namespace Go.Proofs.YtiggallcoocdaaaGreatDoor
open Go.RowKit
def exIm : Im := ⟨[⟨1, -5, [], ⟨[], []⟩⟩, ⟨2, 0, [], ⟨[1], []⟩⟩], [⟨1, 2, [(1, 1), (18, 0)]⟩]⟩
def exT1 : List UInt8 := [35, 32, 97, 32, 119, 111, 114, 100, 10, 105, 110, 116, 32, 45, 53, 10, 109, 97, 114, 107, 32, 97, 47, 84, 10, 10, 102, 117, 110, 32, 49, 32, 50, 10, 112, 117, 115, 104, 32, 49, 10, 114, 101, 116]
def exT2 : List UInt8 := [112, 117, 115, 104, 32, 48, 10, 102, 117, 110, 32, 48, 32, 48]
def exT3 : List UInt8 := [102, 117, 110, 32, 48, 32, 48, 10, 111, 119, 110, 10, 105, 110, 116, 32, 51]
def exT4 : List UInt8 := [105, 110, 116, 32, 51]
def exP1 : List UInt8 := [105, 110, 116, 32, 45, 53, 10, 109, 97, 114, 107, 32, 97, 47, 84, 10, 102, 117, 110, 32, 49, 32, 50, 10, 112, 117, 115, 104, 32, 49, 10, 114, 101, 116, 10]
theorem ex_1 : parseA exT1 = (exIm, 0, 0) := by decide +kernel
theorem ex_2 : parseA exT2 = (im0, 1, 4) := by decide +kernel
theorem ex_3 : parseA exT3 = (im0, 3, 4) := by decide +kernel
theorem ex_4 : parseA exT4 = (im0, 0, 6) := by decide +kernel
theorem ex_5 : printI exIm = exP1 := by decide +kernel
theorem ex_6 : printI im0 = [] := by decide +kernel
def KPa (s : ByteArray) (im : Im) (k : Nat) (E : Int) (n m : Nat) : Prop := ∀ W, LaidI W → Calls Tryz.prog 9 #[.string s] W fun e w' => ∃ co cc fo fc, e = .returned (.tuple #[.agg #[.slice co n cc, .slice fo m fc], .int .i64 (k : Nat), .int .i64 E]) ∧ ImOwn W.heap.size (.slice co n cc) (.slice fo m fc) im w' ∧ Below W.heap.size W w'
theorem k_1 : KPa ⟨#[35, 32, 97, 32, 119, 111, 114, 100, 10, 105, 110, 116, 32, 45, 53, 10, 109, 97, 114, 107, 32, 97, 47, 84, 10, 10, 102, 117, 110, 32, 49, 32, 50, 10, 112, 117, 115, 104, 32, 49, 10, 114, 101, 116]⟩ exIm 0 0 2 1 := fun W hW => parse_im ⟨#[35, 32, 97, 32, 119, 111, 114, 100, 10, 105, 110, 116, 32, 45, 53, 10, 109, 97, 114, 107, 32, 97, 47, 84, 10, 10, 102, 117, 110, 32, 49, 32, 50, 10, 112, 117, 115, 104, 32, 49, 10, 114, 101, 116]⟩ W (by decide) hW exIm 0 0 ex_1 2 1 rfl rfl
theorem k_2 : KPa ⟨#[112, 117, 115, 104, 32, 48, 10, 102, 117, 110, 32, 48, 32, 48]⟩ im0 1 4 0 0 := fun W hW => parse_im ⟨#[112, 117, 115, 104, 32, 48, 10, 102, 117, 110, 32, 48, 32, 48]⟩ W (by decide) hW im0 1 4 ex_2 0 0 rfl rfl
theorem k_3 : KPa ⟨#[102, 117, 110, 32, 48, 32, 48, 10, 111, 119, 110, 10, 105, 110, 116, 32, 51]⟩ im0 3 4 0 0 := fun W hW => parse_im ⟨#[102, 117, 110, 32, 48, 32, 48, 10, 111, 119, 110, 10, 105, 110, 116, 32, 51]⟩ W (by decide) hW im0 3 4 ex_3 0 0 rfl rfl
theorem k_4 : KPa ⟨#[105, 110, 116, 32, 51]⟩ im0 0 6 0 0 := fun W hW => parse_im ⟨#[105, 110, 116, 32, 51]⟩ W (by decide) hW im0 0 6 ex_4 0 0 rfl rfl
theorem ex_sized : exIm.sized := by
  intro v hv
  rcases List.mem_cons.1 hv with rfl | hv
  · exact ⟨⟨by decide, by decide, by decide⟩, by unfold InI64; decide⟩
  · rw [List.mem_singleton] at hv
    subst hv
    exact ⟨⟨by decide, by decide, by decide⟩, by unfold InI64; decide⟩
theorem im0_sized : im0.sized := fun v hv => by simp [im0] at hv
theorem im0_at (w : World) : ImAt (.slice none 0 0) (.slice none 0 0) im0 w := ⟨VsAt.of_owns (B := 0) ⟨rfl, .inl ⟨rfl, rfl⟩⟩, (FnOwn.nil w 0).at⟩
set_option maxRecDepth 100000 in
set_option maxHeartbeats 8000000 in
theorem aex_any (w : World) (hw : LaidI w) : Calls Tryz.prog 8 #[] w fun e w' => e = .returned (.bool true) ∧ Below w.heap.size w w' := by
  have k1 := k_1
  have k2 := k_2
  have k3 := k_3
  have k4 := k_4
  obtain ⟨P, hP⟩ : ∃ P : ByteArray, P = ⟨exP1.toArray⟩ := ⟨_, rfl⟩
  have KP := fun W (hW : LaidI W) c d (h : ImAt c d exIm W) => print_im exIm c d ex_sized W hW h P (by rw [hP, ex_5])
  have KZ := fun W (hW : LaidI W) => print_im im0 _ _ im0_sized W hW (im0_at W) ⟨#[]⟩ (by rw [ex_6])
  have e1 : (P.toList == [105, 110, 116, 32, 45, 53, 10, 109, 97, 114, 107, 32, 97, 47, 84, 10, 102, 117, 110, 32, 49, 32, 50, 10, 112, 117, 115, 104, 32, 49, 10, 114, 101, 116, 10]) = true := by rw [ByteArray.toList_eq, hP]; rfl
  clear hP
  go_enter Tryz.func8, Tryz.ntmps8
  have hB0 := Below.refl w.heap.size w
  have M0 := Mem.nil w
  have hw0 := hw
  go_wp2_with fail
  refine Calls.named ?_
  intro W1 hW1
  have hB1_ : Below w.heap.size w W1 := by rw [hW1]; exact hB0
  have hw1_ : LaidI W1 := by rw [hW1]; exact hw
  have M1_ := Mem.nil W1
  clear hW1
  refine (k1 _ hw1_).mono ?_
  rintro e w1 ⟨co, cc, fo, fc, rfl, HI, hb1⟩
  have hB1 := below_then hB1_ hb1
  have hw1 := hw1_.below hb1
  have M1 := M1_.below hb1
  clear M1_ hB1_ hb1 hw1_
  go_wp2_with fail
  refine Calls.named ?_
  intro W2 hW2
  have hB2_ : Below w.heap.size w W2 := by rw [hW2]; exact (below_al hB1 _)
  have hw2_ : LaidI W2 := by rw [hW2]; exact (hw1.alloc _)
  have M2_ := (M1).new' (w1.heap.size) (by rfl) (.cells #[.slice co 2 cc, .slice fo 1 fc] 27)
  rw [← hW2] at M2_
  have hS2 : Below w1.heap.size w1 W2 := by rw [hW2]; exact (below_al (Below.refl _ _) _)
  have HI_ := ImOwn.below HI hS2
  clear hS2 HI
  clear hW2
  have ZZ2_0 := Lib.hid (Mem.lt M2_.1)
  refine (k2 _ hw2_).mono ?_
  rintro e w2 ⟨co2, cc2, fo2, fc2, rfl, -, hb2⟩
  have HI := ImOwn.below HI_ hb2
  clear HI_
  have hB2 := below_then hB2_ hb2
  have hw2 := hw2_.below hb2
  have M2 := M2_.below hb2
  clear M2_ hB2_ hb2 hw2_
  have c2_0_0 := Mem.cell (v := .slice co 2 cc) M2.1 0 rfl
  have c2_0_1 := Mem.cell (v := .slice fo 1 fc) M2.1 1 rfl
  have z2_0 := Mem.lt M2.1
  go_wp2_with fail
  refine Calls.named ?_
  intro W3 hW3
  have hB3_ : Below w.heap.size w W3 := by rw [hW3]; exact (below_al hB2 _)
  have hw3_ : LaidI W3 := by rw [hW3]; exact (hw2.alloc _)
  have M3_ := (M2).new' (w2.heap.size) (by rfl) (.cells #[.slice co2 0 cc2, .slice fo2 0 fc2] 27)
  rw [← hW3] at M3_
  have hS3 : Below w2.heap.size w2 W3 := by rw [hW3]; exact (below_al (Below.refl _ _) _)
  have HI_ := ImOwn.below HI hS3
  clear hS3 HI
  clear hW3
  have ZZ3_0 := Lib.hid (Mem.lt M3_.1)
  have ZZ3_1 := Lib.hid (Mem.lt M3_.2.1)
  clear c2_0_0 c2_0_1 z2_0
  refine (k3 _ hw3_).mono ?_
  rintro e w3 ⟨co3, cc3, fo3, fc3, rfl, -, hb3⟩
  have HI := ImOwn.below HI_ hb3
  clear HI_
  have hB3 := below_then hB3_ hb3
  have hw3 := hw3_.below hb3
  have M3 := M3_.below hb3
  clear M3_ hB3_ hb3 hw3_
  have c3_0_0 := Mem.cell (v := .slice co2 0 cc2) M3.1 0 rfl
  have c3_0_1 := Mem.cell (v := .slice fo2 0 fc2) M3.1 1 rfl
  have z3_0 := Mem.lt M3.1
  have c3_1_0 := Mem.cell (v := .slice co 2 cc) M3.2.1 0 rfl
  have c3_1_1 := Mem.cell (v := .slice fo 1 fc) M3.2.1 1 rfl
  have z3_1 := Mem.lt M3.2.1
  go_wp2_with fail
  refine Calls.named ?_
  intro W4 hW4
  have hB4_ : Below w.heap.size w W4 := by rw [hW4]; exact (below_al hB3 _)
  have hw4_ : LaidI W4 := by rw [hW4]; exact (hw3.alloc _)
  have M4_ := (M3).new' (w3.heap.size) (by rfl) (.cells #[.slice co3 0 cc3, .slice fo3 0 fc3] 27)
  rw [← hW4] at M4_
  have hS4 : Below w3.heap.size w3 W4 := by rw [hW4]; exact (below_al (Below.refl _ _) _)
  have HI_ := ImOwn.below HI hS4
  clear hS4 HI
  clear hW4
  have ZZ4_0 := Lib.hid (Mem.lt M4_.1)
  have ZZ4_1 := Lib.hid (Mem.lt M4_.2.1)
  have ZZ4_2 := Lib.hid (Mem.lt M4_.2.2.1)
  clear c3_0_0 c3_0_1 z3_0 c3_1_0 c3_1_1 z3_1
  refine (k4 _ hw4_).mono ?_
  rintro e w4 ⟨co4, cc4, fo4, fc4, rfl, -, hb4⟩
  have HI := ImOwn.below HI_ hb4
  clear HI_
  have hB4 := below_then hB4_ hb4
  have hw4 := hw4_.below hb4
  have M4 := M4_.below hb4
  clear M4_ hB4_ hb4 hw4_
  have c4_0_0 := Mem.cell (v := .slice co3 0 cc3) M4.1 0 rfl
  have c4_0_1 := Mem.cell (v := .slice fo3 0 fc3) M4.1 1 rfl
  have z4_0 := Mem.lt M4.1
  have c4_1_0 := Mem.cell (v := .slice co2 0 cc2) M4.2.1 0 rfl
  have c4_1_1 := Mem.cell (v := .slice fo2 0 fc2) M4.2.1 1 rfl
  have z4_1 := Mem.lt M4.2.1
  have c4_2_0 := Mem.cell (v := .slice co 2 cc) M4.2.2.1 0 rfl
  have c4_2_1 := Mem.cell (v := .slice fo 1 fc) M4.2.2.1 1 rfl
  have z4_2 := Mem.lt M4.2.2.1
  go_upto_region 5 with (fail)
  refine wp_named ?_
  intro w5 hW5
  have hB5 : Below w.heap.size w w5 := by rw [hW5]; exact (below_al hB4 _)
  have hw5 : LaidI w5 := by rw [hW5]; exact (hw4.alloc _)
  have M5 := (M4).new' (w4.heap.size) (by rfl) (.cells #[.slice co4 0 cc4, .slice fo4 0 fc4] 27)
  rw [← hW5] at M5
  have hS5 : Below w4.heap.size w4 w5 := by rw [hW5]; exact (below_al (Below.refl _ _) _)
  replace HI := ImOwn.below HI hS5
  clear hS5
  clear c4_0_0 c4_0_1 z4_0 c4_1_0 c4_1_1 z4_1 c4_2_0 c4_2_1 z4_2
  clear hW5
  have c5_0_0 := Mem.cell (v := .slice co4 0 cc4) M5.1 0 rfl
  have c5_0_1 := Mem.cell (v := .slice fo4 0 fc4) M5.1 1 rfl
  have z5_0 := Mem.lt M5.1
  have c5_1_0 := Mem.cell (v := .slice co3 0 cc3) M5.2.1 0 rfl
  have c5_1_1 := Mem.cell (v := .slice fo3 0 fc3) M5.2.1 1 rfl
  have z5_1 := Mem.lt M5.2.1
  have c5_2_0 := Mem.cell (v := .slice co2 0 cc2) M5.2.2.1 0 rfl
  have c5_2_1 := Mem.cell (v := .slice fo2 0 fc2) M5.2.2.1 1 rfl
  have z5_2 := Mem.lt M5.2.2.1
  have c5_3_0 := Mem.cell (v := .slice co 2 cc) M5.2.2.2.1 0 rfl
  have c5_3_1 := Mem.cell (v := .slice fo 1 fc) M5.2.2.2.1 1 rfl
  have z5_3 := Mem.lt M5.2.2.2.1
  have hA := HI.at
  obtain ⟨b, off, rfl, -, -, d1, -, -, -⟩ := hA.vs.row (k := 0) (by decide) rfl
  obtain ⟨b2, off2, cv, rfl, -, -, x1, x2, hO⟩ := hA.fs.row (k := 0) (by decide) rfl
  obtain ⟨oo, oc, rfl⟩ := hO.slice
  obtain ⟨b3, off3, rfl, -, y0, y1⟩ := hO.row (k := 0) (by decide) rfl
  have x2' : w5.cell? ⟨b2, off2 + 2, none⟩ = some (.slice (some ⟨b3, off3, none⟩) 2 oc) := x2
  have x1' : w5.cell? ⟨b2, off2 + 1, none⟩ = some (.int .i64 2) := x1
  have d1' : w5.cell? ⟨b, off + 1, none⟩ = some (.int .i64 (-5)) := d1
  have y0' : w5.cell? ⟨b3, off3, none⟩ = some (.int .i64 1) := y0
  have y1' : w5.cell? ⟨b3, off3 + 1, none⟩ = some (.int .i64 1) := y1
  have HAT := Lib.hid hA
  have HB5 := Lib.hid hB5
  have HW5 := Lib.hid hw5
  clear d1 x1 x2 y0 y1 hO hA HI k1 k2 k3 k4
  go_wp2_with fail
  refine (KP _ HW5.out _ _ HAT.out).mono ?_
  rintro e w6 ⟨rfl, hb6⟩
  have HW6 := Lib.hid (HW5.out.below hb6)
  have HB6 := Lib.hid (below_then HB5.out hb6)
  clear hb6 x2' x1' d1' y0' y1'
  go_wp2_with fail
  refine (KZ _ HW6.out).mono ?_
  rintro e w7 ⟨rfl, hb7⟩
  have HB7 := Lib.hid (below_then HB6.out hb7)
  clear hb7
  go_wp2_with fail
  go_ret
  exact ⟨rfl, HB7.out⟩
end Go.Proofs.YtiggallcoocdaaaGreatDoor
/- The chapter's lines by bytes. -/
namespace Go.Proofs.YtiggallcoocdaaaGreatDoor
open Go.RowKit
theorem joinW_snoc (p : UInt8) (x : List UInt8) : ∀ ws : List (List UInt8), joinW p (ws ++ [x]) = if ws = [] then x else joinW p ws ++ p :: x
  | [] => rfl
  | [a] => rfl
  | a :: b :: ws => by
    have h := joinW_snoc p x (b :: ws)
    rw [if_neg (by simp)] at h
    rw [if_neg (by simp)]
    show joinW p (a :: b :: (ws ++ [x])) = _
    rw [joinW, joinW]
    rw [List.cons_append] at h
    rw [h]
    simp
def jB (l : List UInt8) (k : Nat) : ByteArray := ⟨(joinW 10 ((l.take k).map tabL)).toArray⟩
theorem jB_zero (l : List UInt8) : jB l 0 = ⟨#[]⟩ := rfl
theorem jB_first {l : List UInt8} (h : 0 < l.length) : jB l 1 = ⟨(tabL l[0]).toArray⟩ := by
  unfold jB
  cases l with
  | nil => simp at h
  | cons a l => rfl
theorem jB_next {l : List UInt8} {k : Nat} (h : k < l.length) (h0 : 0 < k) : jB l (k + 1) = jB l k ++ ⟨#[10]⟩ ++ ⟨(tabL l[k]).toArray⟩ := by
  unfold jB
  rw [List.take_succ_eq_append_getElem h, List.map_append, List.map_singleton, joinW_snoc, if_neg]
  · apply ByteArray.ext
    simp [ByteArray.data_append]
  · intro e
    have := congrArg List.length e
    rw [List.length_map, List.length_take, List.length_nil] at this
    omega
theorem tabL_size (c : UInt8) : (tabL c).length ≤ 24 := by
  have h1 : ∀ s ∈ tab, s.length ≤ 24 := by decide +kernel
  exact h1 _ (tabL_mem c)
theorem jB_size (l : List UInt8) (k : Nat) : (jB l k).size ≤ 25 * k := by
  induction k with
  | zero => simp [jB_zero]; rfl
  | succ k ih =>
    by_cases h : k < l.length
    · by_cases h0 : 0 < k
      · rw [jB_next h h0]
        have := tabL_size l[k]
        have h5 : (⟨(tabL l[k]).toArray⟩ : ByteArray).size = (tabL l[k]).length := List.size_toArray
        rw [ByteArray.size_append, ByteArray.size_append, h5, show (⟨#[10]⟩ : ByteArray).size = 1 from rfl]
        omega
      · obtain rfl : k = 0 := by omega
        rw [jB_first h, b_size]
        have := tabL_size l[0]
        omega
    · have e : jB l (k + 1) = jB l k := by
        unfold jB
        rw [List.take_of_length_le (by omega), List.take_of_length_le (by omega)]
      rw [e]
      omega
def litL : Array Value := (tab.map fun l => Value.string ⟨l.toArray⟩).toArray
theorem lit_at (c : UInt8) : litL[c.toNat % 26]? = some (.string ⟨(tabL c).toArray⟩) := by
  unfold litL tabL
  have h : c.toNat % 26 < tab.length := Nat.mod_lt _ (by decide)
  rw [List.getElem?_toArray, List.getElem?_map, List.getElem?_eq_getElem h, List.getD_eq_getElem?_getD, List.getElem?_eq_getElem h]
  rfl
set_option maxRecDepth 100000 in
set_option maxHeartbeats 4000000 in
theorem alines_any (v : Value) (l : List UInt8) (w : World) (h : BsAt w v l) :
    Calls Tryz.prog 10 #[v] w fun e w' => e = .returned (.string ⟨(linesB l).toArray⟩) ∧ Below w.heap.size w w' := by
  obtain ⟨ao, cap, rfl⟩ := SlotsAt.slice h.1
  rw [List.length_map] at h ⊢
  have hR : jB l (min l.length 40) = ⟨(linesB l).toArray⟩ := by
    unfold jB linesB
    by_cases h40 : l.length ≤ 40
    · rw [Nat.min_eq_left h40, List.take_length, List.take_of_length_le h40]
    · rw [Nat.min_eq_right (by omega)]
  rw [← hR]
  obtain ⟨n, hn⟩ : ∃ n, n = l.length := ⟨_, rfl⟩
  have hbig : n ≤ 1152921504606846976 := by rw [hn]; exact h.2
  rw [← hn] at h ⊢
  have HN := Lib.hid hn
  have HH := Lib.hid h
  have HB0 := Lib.hid (below_al (Below.refl w.heap.size w) (.cells litL 9))
  clear hR hn h
  go_enter Tryz.func10, Tryz.ntmps10
  go_upto_region 2 with (fail)
  refine wp_named ?_
  intro w1 hW1
  have hW1' : w1 = w.alloc (.cells litL 9) := hW1
  have M1 := ((Mem.nil w).new (.cells litL 9)).1
  have HB := Lib.hid HB0.out
  rw [← hW1'] at M1 HB
  clear hW1 hW1' HB0
  have HM := Lib.hid M1
  clear M1
  go_wp2_with fail
  go_loopw [4, 5] (fun s4 s5 wr => ∃ k : Nat, k ≤ n ∧ k ≤ 40 ∧ s5 = .int .i64 k ∧ s4 = .string (jB l k) ∧ wr = w1) (fun _ s5 _ => 40 - (intOf s5).toNat)
  case atStart => exact ⟨0, by omega, by omega, rfl, rfl, rfl⟩
  case round =>
    obtain ⟨k, hk, hk2, rfl, rfl, rfl⟩ := hrel
    obtain ⟨A, hA⟩ : ∃ A, A = jB l k := ⟨_, rfl⟩
    have hAs := jB_size l k
    rw [← hA] at hAs ⊢
    by_cases hlt : k < n ∧ k < 40
    · obtain ⟨l1, l2⟩ := hlt
      have hkl : k < l.length := by rw [← HN.out]; exact l1
      have g1 : (0 : Int) ≤ (k : Int) := by omega
      have g2 : (k : Int) < (n : Int) := by omega
      have g3 : (k : Int) < 40 := by omega
      have e1 : IntKind.i64.wrap ((k : Int) + 1) = ((k + 1 : Nat) : Int) := by rw [IntWalk.i64_in _ (by omega)]; omega
      obtain ⟨b, off, rfl, -, hbl, hcell⟩ := slots_row (HH.out.1.below HB.out) (k := 1) (by omega)
      obtain ⟨c, hc⟩ : ∃ c, c = l[k] := ⟨_, rfl⟩
      have c0 : wr.cell? ⟨b, off + k, none⟩ = some (.int .u8 (c.toNat : Int)) := by
        have := hcell k 0 [.int .u8 (l[k].toNat : Nat)] (.int .u8 (l[k].toNat : Nat)) (by rw [List.getElem?_map, List.getElem?_eq_getElem hkl]; rfl) rfl
        rw [hc]
        simpa using this
      have hlit := lit_at c
      obtain ⟨X, hX⟩ : ∃ X : ByteArray, X = ⟨(tabL c).toArray⟩ := ⟨_, rfl⟩
      have hXs : X.size ≤ 24 := by rw [hX, b_size]; exact tabL_size c
      rw [← hX] at hlit
      obtain ⟨j, hj⟩ : ∃ j, j = c.toNat % 26 := ⟨_, rfl⟩
      have hjl : j < 26 := by rw [hj]; exact Nat.mod_lt _ (by decide)
      have htm : ((c.toNat : Int)).tmod 26 = (j : Int) := by rw [hj]; exact Int.ofNat_tmod _ _
      rw [← hj] at hlit
      have c1 := Mem.cell (v := .string X) HM.out j hlit
      have HW8 : Hid (wrap64 ((c.toNat : Nat) : Int) = ((c.toNat : Nat) : Int)) := Lib.hid (w64 c.toNat (Nat.le_trans (Nat.le_of_lt c.toNat_lt) (by decide)))
      have g4 : (0 : Int) ≤ (j : Int) := by omega
      have g5 : (j : Int) < 26 := by omega
      by_cases h0 : 0 < k
      · have g6 : (0 : Int) < (k : Int) := by omega
        have HNX : Hid (jB l (k + 1) = A ++ ⟨#[10]⟩ ++ X) := Lib.hid (by rw [jB_next hkl h0, hA, hX, hc])
        have q1 : ¬ 9223372036854775807 < A.size + 1 := by omega
        have q2 : ¬ 9223372036854775807 < A.size + 1 + X.size := by omega
        clear hA hX hj hc hlit hcell
        have hw8 := HW8.out
        go_wp2_with fail
        clear hw8
        go_roundw
        case rel => exact ⟨k + 1, by omega, by omega, by go_num, by rw [HNX.out], trivial⟩
        case measure => simp [intOf]; omega
      · have hk0 : k = 0 := by omega
        have g6 : ¬ (0 : Int) < (k : Int) := by omega
        have HNX : Hid (jB l (k + 1) = A ++ X) := Lib.hid (by
          have e : jB l (k + 1) = X := by
            subst hk0
            rw [jB_first hkl, hX, hc]
          rw [e, hA, hk0]
          apply ByteArray.ext
          rw [ByteArray.data_append, jB_zero]
          simp)
        have q3 : ¬ 9223372036854775807 < A.size + X.size := by omega
        clear hX hj hc hlit hcell hk0 h0 hA
        have hw8 := HW8.out
        go_wp2_with fail
        clear hw8
        go_roundw
        case rel => exact ⟨k + 1, by omega, by omega, by go_num, by rw [HNX.out], trivial⟩
        case measure => simp [intOf]; omega
    · by_cases l1 : k < n
      · have g2 : (k : Int) < (n : Int) := by omega
        have g3 : ¬ (k : Int) < 40 := by omega
        have g3' : (40 : Int) ≤ (k : Int) := by omega
        have HE : Hid (A = jB l (min n 40)) := Lib.hid (by
          rw [hA]
          congr 1
          omega)
        clear hA hlt
        go_wp2_with fail
        go_ret
        exact ⟨by rw [HE.out]; rfl, HB.out⟩
      · have g2 : (n : Int) ≤ (k : Int) := by omega
        have HE : Hid (A = jB l (min n 40)) := Lib.hid (by
          rw [hA]
          congr 1
          omega)
        clear hA hlt
        go_wp2_with fail
        go_ret
        exact ⟨by rw [HE.out]; rfl, HB.out⟩
end Go.Proofs.YtiggallcoocdaaaGreatDoor
/- Bytes that came in, cut: what is cut off is bytes again. -/
namespace Go.Proofs.YtiggallcoocdaaaGreatDoor
open Go.RowKit
theorem elem_u8 : Tryz.prog.underlying 22 = some (.slice (Tryz.prog.elem 22)) := by kernel_rfl
theorem size_u8 (w : World) : (sizeOf (Tryz.prog.elem 22)).run Tryz.prog w = .ok 1 w := by kernel_rfl
theorem BsAt.room {w : World} {ao : Option Addr} {n cap : Nat} {l : List UInt8} (h : BsAt w (.slice ao n cap) l) : n ≤ cap ∧ n = l.length := by
  rcases h.1.2 with ⟨⟨a, c, hv⟩, h0⟩ | ⟨b, off, c, hv, hc, _⟩
  · simp only [Value.slice.injEq] at hv
    have := congrArg List.length h0
    rw [List.length_map, List.length_nil] at this
    omega
  · simp only [Value.slice.injEq] at hv
    rw [List.length_map] at hv hc
    omega
theorem BsAt.form {w : World} {v : Value} {l : List UInt8} (h : BsAt w v l) : ∃ ao cap, v = .slice ao l.length cap := by
  obtain ⟨ao, cap, e⟩ := SlotsAt.slice h.1
  rw [List.length_map] at e
  exact ⟨ao, cap, e⟩
theorem BsAt.cut {w : World} {ao : Option Addr} {n cap : Nat} {l : List UInt8} (h : BsAt w (.slice ao n cap) l) {k : Nat} (hk : k ≤ n) : BsAt w (.slice ao k cap) (l.take k) := by
  obtain ⟨h1, h2⟩ := h.room
  refine ⟨⟨h.1.1.sub (fun r hr => ?_), ?_⟩, by rw [List.length_take]; have := h.2; omega⟩
  · obtain ⟨c, hc, rfl⟩ := List.mem_map.1 hr
    exact List.mem_map.2 ⟨c, List.mem_of_mem_take hc, rfl⟩
  · rcases h.1.2 with ⟨⟨a, c, hv⟩, h0⟩ | ⟨b, off, c, hv, hc, hlt, hg⟩
    · simp only [Value.slice.injEq] at hv
      obtain rfl : k = 0 := by omega
      exact .inl ⟨⟨_, _, rfl⟩, by simp⟩
    · simp only [Value.slice.injEq] at hv
      obtain ⟨rfl, e, rfl⟩ := hv
      rw [List.length_map] at e hc
      refine .inr ⟨b, off, cap, by rw [List.length_map, List.length_take, Nat.min_eq_left (by omega)], by rw [List.length_map, List.length_take]; omega, hlt, fun j u hj => hg j u ?_⟩
      rw [List.map_take, h.1.1.take k, List.getElem?_take] at hj
      split at hj
      · exact hj
      · cases hj
theorem slice_h {w : World} {ao : Option Addr} {n cap : Nat} {l : List UInt8} (h : BsAt w (.slice ao n cap) l) {k : Nat} (hk : k ≤ n) (x : Int) (hx : x = (k : Int)) (W : World) :
    (Instr.slice 22 (.slice ao n cap) none (some (.int .i64 x)) none).run Tryz.prog W = .ok (.slice ao k cap) W := by
  obtain ⟨h1, h2⟩ := h.room
  subst hx
  rw [run_slice_h W 22 ao n cap elem_u8 .i64 (k : Int) (by omega) (by omega), size_u8]
  simp only [Result.andThen, sliced, Int.toNat_natCast, Nat.sub_zero, Nat.zero_mul]
  congr 2
  split
  · rfl
  · cases ao with
    | none => rfl
    | some a =>
      obtain ⟨b, off, sp⟩ := a
      cases sp <;> rfl
theorem slice_l {w : World} {ao : Option Addr} {n cap : Nat} {l : List UInt8} (h : BsAt w (.slice ao n cap) l) {k : Nat} (hk : k ≤ n) (x : Int) (hx : x = (k : Int)) :
    ∃ bo bc, (∀ W : World, (Instr.slice 22 (.slice ao n cap) (some (.int .i64 x)) none none).run Tryz.prog W = .ok (.slice bo (n - k) bc) W) ∧ BsAt w (.slice bo (n - k) bc) (l.drop k) := by
  obtain ⟨h1, h2⟩ := h.room
  subst hx
  refine ⟨if cap = k then ao else ao.map (·.add (k * 1)), cap - k, fun W => ?_, ⟨h.1.1.sub (fun r hr => ?_), ?_⟩, by rw [List.length_drop]; have := h.2; omega⟩
  · rw [run_slice_l W 22 ao n cap elem_u8 .i64 (k : Int) (by omega) (by omega), size_u8]
    simp only [Result.andThen, sliced, Int.toNat_natCast]
  · obtain ⟨c, hc, rfl⟩ := List.mem_map.1 hr
    exact List.mem_map.2 ⟨c, List.mem_of_mem_drop hc, rfl⟩
  · by_cases hkn : k = n
    · left
      refine ⟨⟨_, cap - k, by rw [hkn, Nat.sub_self]⟩, ?_⟩
      rw [List.drop_of_length_le (by omega)]
      rfl
    · rcases h.1.2 with ⟨⟨a, c, hv⟩, h0⟩ | ⟨b, off, c, hv, hc, hlt, hg⟩
      · simp only [Value.slice.injEq] at hv
        omega
      · simp only [Value.slice.injEq] at hv
        obtain ⟨rfl, e, rfl⟩ := hv
        rw [List.length_map] at e hc
        right
        refine ⟨b, off + k, cap - k, ?_, by rw [List.length_map, List.length_drop]; omega, hlt, fun j u hj => ?_⟩
        · rw [if_neg (by omega), List.length_map, List.length_drop, h2]
          simp only [Option.map_some, Nat.mul_one]
          rw [show (⟨b, off, none⟩ : Addr).add k = ⟨b, off + k, none⟩ by unfold Addr.add; split <;> simp_all]
        · rw [List.map_drop, h.1.1.drop k, List.getElem?_drop, Nat.mul_one] at hj
          have := hg _ u hj
          rwa [← Nat.add_assoc] at this
theorem linesB_take (l : List UInt8) : linesB (l.take (min l.length 40)) = linesB l := by
  unfold linesB
  rw [List.take_take]
  by_cases h : l.length ≤ 40
  · rw [Nat.min_eq_left h, Nat.min_eq_right h, List.take_length, List.take_of_length_le h]
  · rw [Nat.min_eq_right (by omega : 40 ≤ l.length), Nat.min_self]
theorem lines_c (v : Value) (l : List UInt8) (w : World) (h : BsAt w v l) (s : ByteArray) (hs : s = ⟨(linesB l).toArray⟩) :
    Calls Tryz.prog 10 #[v] w fun e w' => e = .returned (.string s) ∧ Below w.heap.size w w' := by
  subst hs
  exact alines_any v l w h
end Go.Proofs.YtiggallcoocdaaaGreatDoor
