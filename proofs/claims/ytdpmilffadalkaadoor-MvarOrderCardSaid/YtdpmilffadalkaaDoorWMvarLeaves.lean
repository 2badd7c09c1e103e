/- lazarettolaw12.MvarLeaves: the walk. -/
import Derived.Test.YtdpmilffadalkaaDoorMvEx
namespace Go.Proofs.YtdpmilffadalkaaDoor
open Go.RowKit
theorem waits_find {q : List Wt} {id : ByteArray} : waitsB q id = (q.findIdx? (fun w => w.id.toList == id.toList)).isSome := by
  unfold waitsB
  rw [List.findIdx?_isSome]
theorem same_refl (x : VM) : sameM x x = true := by
  unfold sameM
  simp [(V5.eqb_iff _ _).2 rfl]
theorem neq_wait_same (x : Wt) : Wt.eqb x x = true := (Wt.eqb_iff x x).2 rfl
set_option maxRecDepth 100000 in
set_option maxHeartbeats 2000000 in
theorem mvLeaves_no (f : Bool) (k n : Int) (m s i : ByteArray) (id : ByteArray) (q : List Wt) (v : Value) (w : World) (hv : QAt w v q) (hlen : q.length * 88 ≤ 140737488355328 - 88) (hw : Laid w) (hf : q.findIdx? (fun w => w.id.toList == id.toList) = none) :
    Calls Tryd.prog 5 #[.agg #[.bool f, .int .i64 k, .int .i64 n, .string m, .string s, .string i, v], .string id] w fun e w' => e = .returned (.bool true) ∧ Below w.heap.size w w' := by
  have HF := Lib.hid (find_none hf)
  have HW : Hid (waitsB q id = false) := Lib.hid (by rw [waits_find, hf]; rfl)
  clear hf
  obtain ⟨ao, cap, rfl⟩ := hv.slice
  go_enter Tryd.func5, Tryd.ntmps5
  have hB0 := Below.refl w.heap.size w
  have M0 := Mem.nil w
  go_wp2_with fail
  refine Calls.named ?_
  intro W1 hW1
  have hB1_ : Below w.heap.size w W1 := by rw [hW1]; exact (below_al hB0 _)
  have hw1_ : Laid W1 := by rw [hW1]; exact (hw.alloc _)
  have M1_ := (M0).new' (w.heap.size) (by rfl) (.cells #[.bool f, .int .i64 k, .int .i64 n, .string m, .string s, .string i, .slice ao q.length cap] 31)
  rw [← hW1] at M1_
  have hS1 : Below w.heap.size w W1 := by rw [hW1]; exact (below_al (Below.refl _ _) _)
  have hv_ := QAt.below hv hS1
  clear hS1 hv
  clear hW1
  refine (examples_any _ hw1_).mono ?_
  rintro e w1 ⟨rfl, hb1⟩
  have hv := QAt.below hv_ hb1
  clear hv_
  have hB1 := below_then hB1_ hb1
  have hw1 := hw1_.below hb1
  have M1 := M1_.below hb1
  clear M1_ hB1_ hb1 hw1_
  have c1_0_0 := Mem.cell (v := .bool f) M1.1 0 rfl
  have c1_0_1 := Mem.cell (v := .int .i64 k) M1.1 1 rfl
  have c1_0_2 := Mem.cell (v := .int .i64 n) M1.1 2 rfl
  have c1_0_3 := Mem.cell (v := .string m) M1.1 3 rfl
  have c1_0_4 := Mem.cell (v := .string s) M1.1 4 rfl
  have c1_0_5 := Mem.cell (v := .string i) M1.1 5 rfl
  have c1_0_6 := Mem.cell (v := .slice ao q.length cap) M1.1 6 rfl
  have z1_0 := Mem.lt M1.1
  go_wp2_with fail
  refine Calls.named ?_
  intro W2 hW2
  have hB2_ : Below w.heap.size w W2 := by rw [hW2]; exact hB1
  have hw2_ : Laid W2 := by rw [hW2]; exact hw1
  have M2_ := M1
  rw [← hW2] at M2_
  have hS2 : Below w1.heap.size w1 W2 := by rw [hW2]; exact (Below.refl _ _)
  have hv_ := QAt.below hv hS2
  clear hS2 hv
  clear hW2
  clear c1_0_0 c1_0_1 c1_0_2 c1_0_3 c1_0_4 c1_0_5 c1_0_6 z1_0
  refine (leave_no f k n m s i q _ id _ hv_ (by omega) HF.out).mono ?_
  rintro e w2 ⟨v2, rfl, hy, hb2⟩
  have hv := QAt.below hv_ hb2
  clear hv_
  have hB2 := below_then hB2_ hb2
  have hw2 := hw2_.below hb2
  have M2 := M2_.below hb2
  clear M2_ hB2_ hb2 hw2_
  have c2_0_0 := Mem.cell (v := .bool f) M2.1 0 rfl
  have c2_0_1 := Mem.cell (v := .int .i64 k) M2.1 1 rfl
  have c2_0_2 := Mem.cell (v := .int .i64 n) M2.1 2 rfl
  have c2_0_3 := Mem.cell (v := .string m) M2.1 3 rfl
  have c2_0_4 := Mem.cell (v := .string s) M2.1 4 rfl
  have c2_0_5 := Mem.cell (v := .string i) M2.1 5 rfl
  have c2_0_6 := Mem.cell (v := .slice ao q.length cap) M2.1 6 rfl
  have z2_0 := Mem.lt M2.1
  have hyq := hy.at
  clear hy
  obtain ⟨ao2, cap2, rfl⟩ := hyq.slice
  go_wp2_with fail
  refine Calls.named ?_
  intro W3 hW3
  have hB3_ : Below w.heap.size w W3 := by rw [hW3]; exact (below_al hB2 _)
  have hw3_ : Laid W3 := by rw [hW3]; exact (hw2.alloc _)
  have M3_ := (M2).new' (w2.heap.size) (by rfl) (.cells #[.bool f, .int .i64 k, .int .i64 n, .string m, .string s, .string i, .slice ao2 q.length cap2] 31)
  rw [← hW3] at M3_
  have hS3 : Below w2.heap.size w2 W3 := by rw [hW3]; exact (below_al (Below.refl _ _) _)
  have hv_ := QAt.below hv hS3
  have hyq_ := QAt.below hyq hS3
  clear hS3 hv hyq
  clear hW3
  clear c2_0_0 c2_0_1 c2_0_2 c2_0_3 c2_0_4 c2_0_5 c2_0_6 z2_0
  refine (waits_any f k n m s i id q _ _ hv_ (by omega)).mono ?_
  rw [HW.out]
  rintro e w3 ⟨rfl, hb3⟩
  have hv := QAt.below hv_ hb3
  have hyq := QAt.below hyq_ hb3
  clear hv_ hyq_
  have hB3 := below_then hB3_ hb3
  have hw3 := hw3_.below hb3
  have M3 := M3_.below hb3
  clear M3_ hB3_ hb3 hw3_
  have c3_0_0 := Mem.cell (v := .bool f) M3.1 0 rfl
  have c3_0_1 := Mem.cell (v := .int .i64 k) M3.1 1 rfl
  have c3_0_2 := Mem.cell (v := .int .i64 n) M3.1 2 rfl
  have c3_0_3 := Mem.cell (v := .string m) M3.1 3 rfl
  have c3_0_4 := Mem.cell (v := .string s) M3.1 4 rfl
  have c3_0_5 := Mem.cell (v := .string i) M3.1 5 rfl
  have c3_0_6 := Mem.cell (v := .slice ao2 q.length cap2) M3.1 6 rfl
  have z3_0 := Mem.lt M3.1
  have c3_1_0 := Mem.cell (v := .bool f) M3.2.1 0 rfl
  have c3_1_1 := Mem.cell (v := .int .i64 k) M3.2.1 1 rfl
  have c3_1_2 := Mem.cell (v := .int .i64 n) M3.2.1 2 rfl
  have c3_1_3 := Mem.cell (v := .string m) M3.2.1 3 rfl
  have c3_1_4 := Mem.cell (v := .string s) M3.2.1 4 rfl
  have c3_1_5 := Mem.cell (v := .string i) M3.2.1 5 rfl
  have c3_1_6 := Mem.cell (v := .slice ao q.length cap) M3.2.1 6 rfl
  have z3_1 := Mem.lt M3.2.1
  go_wp2_with fail
  refine Calls.named ?_
  intro W4 hW4
  have hB4_ : Below w.heap.size w W4 := by rw [hW4]; exact hB3
  have hw4_ : Laid W4 := by rw [hW4]; exact hw3
  have M4_ := M3
  rw [← hW4] at M4_
  have hS4 : Below w3.heap.size w3 W4 := by rw [hW4]; exact (Below.refl _ _)
  have hv_ := QAt.below hv hS4
  have hyq_ := QAt.below hyq hS4
  clear hS4 hv hyq
  clear hW4
  clear c3_0_0 c3_0_1 c3_0_2 c3_0_3 c3_0_4 c3_0_5 c3_0_6 z3_0 c3_1_0 c3_1_1 c3_1_2 c3_1_3 c3_1_4 c3_1_5 c3_1_6 z3_1
  refine (msame_any f k n m s i q _ f k n m s i q _ _ hv_ hyq_ (by omega) (by omega)).mono ?_
  rw [same_refl]
  rintro e w4 ⟨rfl, hb4⟩
  have hv := QAt.below hv_ hb4
  have hyq := QAt.below hyq_ hb4
  clear hv_ hyq_
  have hB4 := below_then hB4_ hb4
  have hw4 := hw4_.below hb4
  have M4 := M4_.below hb4
  clear M4_ hB4_ hb4 hw4_
  have c4_0_0 := Mem.cell (v := .bool f) M4.1 0 rfl
  have c4_0_1 := Mem.cell (v := .int .i64 k) M4.1 1 rfl
  have c4_0_2 := Mem.cell (v := .int .i64 n) M4.1 2 rfl
  have c4_0_3 := Mem.cell (v := .string m) M4.1 3 rfl
  have c4_0_4 := Mem.cell (v := .string s) M4.1 4 rfl
  have c4_0_5 := Mem.cell (v := .string i) M4.1 5 rfl
  have c4_0_6 := Mem.cell (v := .slice ao2 q.length cap2) M4.1 6 rfl
  have z4_0 := Mem.lt M4.1
  have c4_1_0 := Mem.cell (v := .bool f) M4.2.1 0 rfl
  have c4_1_1 := Mem.cell (v := .int .i64 k) M4.2.1 1 rfl
  have c4_1_2 := Mem.cell (v := .int .i64 n) M4.2.1 2 rfl
  have c4_1_3 := Mem.cell (v := .string m) M4.2.1 3 rfl
  have c4_1_4 := Mem.cell (v := .string s) M4.2.1 4 rfl
  have c4_1_5 := Mem.cell (v := .string i) M4.2.1 5 rfl
  have c4_1_6 := Mem.cell (v := .slice ao q.length cap) M4.2.1 6 rfl
  have z4_1 := Mem.lt M4.2.1
  go_wp2_with fail
  go_ret
  exact ⟨rfl, hB4⟩
theorem erase_lt {q : List Wt} {j t : Nat} (h : t < j) (ht : t < (q.eraseIdx j).length) (ht2 : t < q.length) : (q.eraseIdx j)[t] = q[t] := List.getElem_eraseIdx_of_lt ht h
theorem erase_ge {q : List Wt} {j t : Nat} (h : j ≤ t) (ht : t < (q.eraseIdx j).length) (ht2 : t + 1 < q.length) : (q.eraseIdx j)[t] = q[t + 1] := List.getElem_eraseIdx_of_ge ht h
set_option maxRecDepth 100000 in
set_option maxHeartbeats 4000000 in
theorem mvLeaves_yes (f : Bool) (k n : Int) (m s i : ByteArray) (id : ByteArray) (q : List Wt) (v : Value) (w : World) (hv : QAt w v q) (hlen : q.length * 88 ≤ 140737488355328 - 88) (hw : Laid w) (j : Nat) (hf : q.findIdx? (fun w => w.id.toList == id.toList) = some j) :
    Calls Tryd.prog 5 #[.agg #[.bool f, .int .i64 k, .int .i64 n, .string m, .string s, .string i, v], .string id] w fun e w' => e = .returned (.bool true) ∧ Below w.heap.size w w' := by
  obtain ⟨hj, hfi⟩ := find_some hf
  have HF := Lib.hid hfi
  have HW : Hid (waitsB q id = true) := Lib.hid (by rw [waits_find, hf]; rfl)
  rw [List.findIdx?_eq_some_iff_getElem] at hf
  obtain ⟨_, hat, hbef⟩ := hf
  have HA : Hid ((q[j].id.toList == id.toList) = true) := Lib.hid hat
  have HBf : Hid (∀ t (ht : t < j) (ht2 : t < q.length), (q[t].id.toList == id.toList) = false) := Lib.hid (fun t ht ht2 => by simpa using hbef t ht)
  clear hat hbef hfi
  obtain ⟨M, hM⟩ : ∃ M, q.length = M + 1 := ⟨q.length - 1, by omega⟩
  have HL : Hid ((q.eraseIdx j).length = M) := Lib.hid (by rw [List.length_eraseIdx, if_pos hj]; omega)
  have HM := Lib.hid hM
  obtain ⟨ao, cap, rfl⟩ := hv.slice
  rw [hM] at hv hlen ⊢
  have hjM : j ≤ M := by omega
  have hMb : (M : Int) ≤ 9223372036854775806 := by omega
  obtain ⟨qb, off, rfl, -, hqb, hg0⟩ := slots_someQ hv (by omega)
  have hE := fun w => neq_val w k n k n m s i m s i
  simp only [(V5.eqb_iff _ _).2 rfl, Bool.not_true] at hE
  clear hg0 hM
  go_enter Tryd.func5, Tryd.ntmps5
  have hB0 := Below.refl w.heap.size w
  have M0 := Mem.nil w
  go_wp2_with fail
  refine Calls.named ?_
  intro W1 hW1
  have hB1_ : Below w.heap.size w W1 := by rw [hW1]; exact (below_al hB0 _)
  have hw1_ : Laid W1 := by rw [hW1]; exact (hw.alloc _)
  have M1_ := (M0).new' (w.heap.size) (by rfl) (.cells #[.bool f, .int .i64 k, .int .i64 n, .string m, .string s, .string i, .slice (some ⟨qb, off, none⟩) (M + 1) cap] 31)
  rw [← hW1] at M1_
  have hS1 : Below w.heap.size w W1 := by rw [hW1]; exact (below_al (Below.refl _ _) _)
  have hv_ := QAt.below hv hS1
  clear hS1 hv
  clear hW1
  refine (examples_any _ hw1_).mono ?_
  rintro e w1 ⟨rfl, hb1⟩
  have hv := QAt.below hv_ hb1
  clear hv_
  have hB1 := below_then hB1_ hb1
  have hw1 := hw1_.below hb1
  have M1 := M1_.below hb1
  clear M1_ hB1_ hb1 hw1_
  have c1_0_0 := Mem.cell (v := .bool f) M1.1 0 rfl
  have c1_0_1 := Mem.cell (v := .int .i64 k) M1.1 1 rfl
  have c1_0_2 := Mem.cell (v := .int .i64 n) M1.1 2 rfl
  have c1_0_3 := Mem.cell (v := .string m) M1.1 3 rfl
  have c1_0_4 := Mem.cell (v := .string s) M1.1 4 rfl
  have c1_0_5 := Mem.cell (v := .string i) M1.1 5 rfl
  have c1_0_6 := Mem.cell (v := .slice (some ⟨qb, off, none⟩) (M + 1) cap) M1.1 6 rfl
  have z1_0 := Mem.lt M1.1
  go_wp2_with fail
  refine Calls.named ?_
  intro W2 hW2
  have hB2_ : Below w.heap.size w W2 := by rw [hW2]; exact hB1
  have hw2_ : Laid W2 := by rw [hW2]; exact hw1
  have M2_ := M1
  rw [← hW2] at M2_
  have hS2 : Below w1.heap.size w1 W2 := by rw [hW2]; exact (Below.refl _ _)
  have hv_ := QAt.below hv hS2
  clear hS2 hv
  clear hW2
  clear c1_0_0 c1_0_1 c1_0_2 c1_0_3 c1_0_4 c1_0_5 c1_0_6 z1_0
  refine (mleave_yes f k n m s i id q _ _ hv_ (by rw [HM.out]; omega) j hj HF.out).mono ?_
  rintro e w2 ⟨v2, rfl, hy, hb2⟩
  have hv := QAt.below hv_ hb2
  clear hv_
  have hB2 := below_then hB2_ hb2
  have hw2 := hw2_.below hb2
  have M2 := M2_.below hb2
  clear M2_ hB2_ hb2 hw2_
  have c2_0_0 := Mem.cell (v := .bool f) M2.1 0 rfl
  have c2_0_1 := Mem.cell (v := .int .i64 k) M2.1 1 rfl
  have c2_0_2 := Mem.cell (v := .int .i64 n) M2.1 2 rfl
  have c2_0_3 := Mem.cell (v := .string m) M2.1 3 rfl
  have c2_0_4 := Mem.cell (v := .string s) M2.1 4 rfl
  have c2_0_5 := Mem.cell (v := .string i) M2.1 5 rfl
  have c2_0_6 := Mem.cell (v := .slice (some ⟨qb, off, none⟩) (M + 1) cap) M2.1 6 rfl
  have z2_0 := Mem.lt M2.1
  have hyq := hy.at
  clear hy
  obtain ⟨ao2, cap2, rfl⟩ := hyq.slice
  rw [HL.out] at hyq ⊢
  go_wp2_with fail
  refine Calls.named ?_
  intro W3 hW3
  have hB3_ : Below w.heap.size w W3 := by rw [hW3]; exact (below_al hB2 _)
  have hw3_ : Laid W3 := by rw [hW3]; exact (hw2.alloc _)
  have M3_ := (M2).new' (w2.heap.size) (by rfl) (.cells #[.bool f, .int .i64 k, .int .i64 n, .string m, .string s, .string i, .slice ao2 M cap2] 31)
  rw [← hW3] at M3_
  have hS3 : Below w2.heap.size w2 W3 := by rw [hW3]; exact (below_al (Below.refl _ _) _)
  have hv_ := QAt.below hv hS3
  have hyq_ := QAt.below hyq hS3
  clear hS3 hv hyq
  clear hW3
  clear c2_0_0 c2_0_1 c2_0_2 c2_0_3 c2_0_4 c2_0_5 c2_0_6 z2_0
  refine (waits_any f k n m s i id q _ _ hv_ (by rw [HM.out]; omega)).mono ?_
  rw [HW.out]
  rintro e w3 ⟨rfl, hb3⟩
  have hv := QAt.below hv_ hb3
  have hyq := QAt.below hyq_ hb3
  clear hv_ hyq_
  have hB3 := below_then hB3_ hb3
  have hw3 := hw3_.below hb3
  have M3 := M3_.below hb3
  clear M3_ hB3_ hb3 hw3_
  have c3_0_0 := Mem.cell (v := .bool f) M3.1 0 rfl
  have c3_0_1 := Mem.cell (v := .int .i64 k) M3.1 1 rfl
  have c3_0_2 := Mem.cell (v := .int .i64 n) M3.1 2 rfl
  have c3_0_3 := Mem.cell (v := .string m) M3.1 3 rfl
  have c3_0_4 := Mem.cell (v := .string s) M3.1 4 rfl
  have c3_0_5 := Mem.cell (v := .string i) M3.1 5 rfl
  have c3_0_6 := Mem.cell (v := .slice ao2 M cap2) M3.1 6 rfl
  have z3_0 := Mem.lt M3.1
  have c3_1_0 := Mem.cell (v := .bool f) M3.2.1 0 rfl
  have c3_1_1 := Mem.cell (v := .int .i64 k) M3.2.1 1 rfl
  have c3_1_2 := Mem.cell (v := .int .i64 n) M3.2.1 2 rfl
  have c3_1_3 := Mem.cell (v := .string m) M3.2.1 3 rfl
  have c3_1_4 := Mem.cell (v := .string s) M3.2.1 4 rfl
  have c3_1_5 := Mem.cell (v := .string i) M3.2.1 5 rfl
  have c3_1_6 := Mem.cell (v := .slice (some ⟨qb, off, none⟩) (M + 1) cap) M3.2.1 6 rfl
  have z3_1 := Mem.lt M3.2.1
  have HB3 := Lib.hid hB3
  clear hB3
  go_wp2_with fail
  go_loop [8] (fun a => ∃ t : Nat, t ≤ j ∧ a = .int .i64 t) (fun a => j - (intOf a).toNat)
  case atStart => exact ⟨0, by omega, rfl⟩
  case round =>
    obtain ⟨t, ht, rfl⟩ := hrel
    obtain ⟨qb', off', he, -, _, hg⟩ := slots_someQ hv (by omega)
    cases he
    have htq : t < q.length := by rw [HM.out]; omega
    obtain ⟨x, hx⟩ : ∃ x, q[t].id = x := ⟨_, rfl⟩
    have c0 := hg t 0 htq _ (by simp only [Wt.row, List.getElem?_cons_zero]; rw [hx])
    simp only [Nat.add_zero] at c0
    have htM : (t : Int) < (M : Int) + 1 := by omega
    by_cases hlt : t < j
    · have hne := HBf.out t hlt htq
      rw [hx] at hne
      clear hg hx
      go_wp2_with fail
      go_round
      case rel => exact ⟨t + 1, by omega, by go_num⟩
      case measure => simp [intOf]; omega
    · obtain rfl : j = t := by omega
      have heq := HA.out
      rw [hx] at heq
      clear hg hx
      go_wp2_with fail
      clear c0
      go_loopw [9] (fun a wr => ∃ u : Nat, u ≤ M ∧ a = .int .i64 u ∧ Below w3.heap.size w3 wr) (fun a _ => M - (intOf a).toNat)
      case atStart => exact ⟨0, by omega, rfl, Below.refl _ _⟩
      case round =>
        obtain ⟨u, hu, rfl, hbr⟩ := hrel
        rename_i wr _
        have MR := M3.below hbr
        have d6 := Mem.cell MR.1 6 rfl
        have e6 := Mem.cell MR.2.1 6 rfl
        have zd := Mem.lt MR.1
        have ze := Mem.lt MR.2.1
        clear c3_0_0 c3_0_1 c3_0_2 c3_0_3 c3_0_4 c3_0_5 c3_0_6 c3_1_0 c3_1_1 c3_1_2 c3_1_3 c3_1_4 c3_1_5 c3_1_6
        by_cases hlu : u < M
        · have hyr := hyq.below hbr
          obtain ⟨yb, yoff, rfl, -, hyb, hgy⟩ := slots_someQ hyr (by omega)
          obtain ⟨qb', off', he, -, hqr, hgq⟩ := slots_someQ (hv.below hbr) (by omega)
          cases he
          by_cases hij : u < j
          · obtain ⟨x, hx⟩ : ∃ x, q[u]'(by rw [HM.out]; omega) = x := ⟨_, rfl⟩
            have hxe : (q.eraseIdx j)[u]'(by rw [HL.out]; exact hlu) = x := by rw [erase_lt hij _ (by rw [HM.out]; omega)]; exact hx
            obtain ⟨x0, x1, ⟨x2, x3, x4, x5, x6⟩⟩ := x
            have hgq' := hgq u
            have hgy' := hgy u
            clear hgq hgy
            have r0 := hgq' 0 (by rw [HM.out]; omega) _ (by rw [hx]; rfl)
            have r1 := hgq' 1 (by rw [HM.out]; omega) _ (by rw [hx]; rfl)
            have r2 := hgq' 2 (by rw [HM.out]; omega) _ (by rw [hx]; rfl)
            have r3 := hgq' 3 (by rw [HM.out]; omega) _ (by rw [hx]; rfl)
            have r4 := hgq' 4 (by rw [HM.out]; omega) _ (by rw [hx]; rfl)
            have r5 := hgq' 5 (by rw [HM.out]; omega) _ (by rw [hx]; rfl)
            have r6 := hgq' 6 (by rw [HM.out]; omega) _ (by rw [hx]; rfl)
            have y0 := hgy' 0 (by rw [HL.out]; exact hlu) _ (by rw [hxe]; rfl)
            have y1 := hgy' 1 (by rw [HL.out]; exact hlu) _ (by rw [hxe]; rfl)
            have y2 := hgy' 2 (by rw [HL.out]; exact hlu) _ (by rw [hxe]; rfl)
            have y3 := hgy' 3 (by rw [HL.out]; exact hlu) _ (by rw [hxe]; rfl)
            have y4 := hgy' 4 (by rw [HL.out]; exact hlu) _ (by rw [hxe]; rfl)
            have y5 := hgy' 5 (by rw [HL.out]; exact hlu) _ (by rw [hxe]; rfl)
            have y6 := hgy' 6 (by rw [HL.out]; exact hlu) _ (by rw [hxe]; rfl)
            simp only [Nat.add_zero] at r0 y0
            have hN := fun w => neq_wait w x0 x1 x2 x3 x4 x5 x6 x0 x1 x2 x3 x4 x5 x6
            simp only [neq_wait_same, Bool.not_true] at hN
            have g1 : (0 : Int) ≤ (u : Int) := by omega
            have g2 : (u : Int) < (M : Int) + 1 := by omega
            have g3 : (u : Int) < (M : Int) := by omega
            have hBR := Lib.hid hbr
            clear hgq' hgy' hx hxe MR M3 hbr
            go_wp2_with fail
            go_quiet (fail)
            go_wp2_with fail
            go_roundw
            case rel => exact ⟨u + 1, by omega, by go_num, (below_al hBR.out _).trans ⟨rfl, rfl, rfl, Nat.le_refl _, fun _ _ => rfl⟩⟩
            case measure => simp [intOf]; omega
          · obtain ⟨x, hx⟩ : ∃ x, q[u + 1]'(by rw [HM.out]; omega) = x := ⟨_, rfl⟩
            have hxe : (q.eraseIdx j)[u]'(by rw [HL.out]; exact hlu) = x := by rw [erase_ge (by omega) _ (by rw [HM.out]; omega)]; exact hx
            obtain ⟨z, hz⟩ : ∃ z, q[u]'(by rw [HM.out]; omega) = z := ⟨_, rfl⟩
            obtain ⟨x0, x1, ⟨x2, x3, x4, x5, x6⟩⟩ := x
            obtain ⟨z0, z1, ⟨z2, z3, z4, z5, z6⟩⟩ := z
            have hgq' := hgq (u + 1)
            have hgq2 := hgq u
            have hgy' := hgy u
            clear hgq hgy
            have r0 := hgq' 0 (by rw [HM.out]; omega) _ (by rw [hx]; rfl)
            have r1 := hgq' 1 (by rw [HM.out]; omega) _ (by rw [hx]; rfl)
            have r2 := hgq' 2 (by rw [HM.out]; omega) _ (by rw [hx]; rfl)
            have r3 := hgq' 3 (by rw [HM.out]; omega) _ (by rw [hx]; rfl)
            have r4 := hgq' 4 (by rw [HM.out]; omega) _ (by rw [hx]; rfl)
            have r5 := hgq' 5 (by rw [HM.out]; omega) _ (by rw [hx]; rfl)
            have r6 := hgq' 6 (by rw [HM.out]; omega) _ (by rw [hx]; rfl)
            have s0 := hgq2 0 (by rw [HM.out]; omega) _ (by rw [hz]; rfl)
            have s1 := hgq2 1 (by rw [HM.out]; omega) _ (by rw [hz]; rfl)
            have s2 := hgq2 2 (by rw [HM.out]; omega) _ (by rw [hz]; rfl)
            have s3 := hgq2 3 (by rw [HM.out]; omega) _ (by rw [hz]; rfl)
            have s4 := hgq2 4 (by rw [HM.out]; omega) _ (by rw [hz]; rfl)
            have s5 := hgq2 5 (by rw [HM.out]; omega) _ (by rw [hz]; rfl)
            have s6 := hgq2 6 (by rw [HM.out]; omega) _ (by rw [hz]; rfl)
            have y0 := hgy' 0 (by rw [HL.out]; exact hlu) _ (by rw [hxe]; rfl)
            have y1 := hgy' 1 (by rw [HL.out]; exact hlu) _ (by rw [hxe]; rfl)
            have y2 := hgy' 2 (by rw [HL.out]; exact hlu) _ (by rw [hxe]; rfl)
            have y3 := hgy' 3 (by rw [HL.out]; exact hlu) _ (by rw [hxe]; rfl)
            have y4 := hgy' 4 (by rw [HL.out]; exact hlu) _ (by rw [hxe]; rfl)
            have y5 := hgy' 5 (by rw [HL.out]; exact hlu) _ (by rw [hxe]; rfl)
            have y6 := hgy' 6 (by rw [HL.out]; exact hlu) _ (by rw [hxe]; rfl)
            simp only [Nat.add_zero] at r0 y0 s0
            have hN := fun w => neq_wait w x0 x1 x2 x3 x4 x5 x6 x0 x1 x2 x3 x4 x5 x6
            simp only [neq_wait_same, Bool.not_true] at hN
            have g1 : (0 : Int) ≤ (u : Int) := by omega
            have g2 : (u : Int) < (M : Int) + 1 := by omega
            have g4 : (u : Int) + 1 < (M : Int) + 1 := by omega
            have g5 : (0 : Int) ≤ (u : Int) + 1 := by omega
            have g6 : (j : Int) ≤ (u : Int) := by omega
            have g3 : (u : Int) < (M : Int) := by omega
            have hBR := Lib.hid hbr
            clear hgq' hgq2 hz hgy' hx hxe MR M3 hbr
            go_wp2_with fail
            go_quiet (fail)
            go_wp2_with fail
            go_roundw
            case rel => exact ⟨u + 1, by omega, by go_num, (below_al hBR.out _).trans ⟨rfl, rfl, rfl, Nat.le_refl _, fun _ _ => rfl⟩⟩
            case measure => simp [intOf]; omega
        · go_wp2_with fail
          go_ret
          exact ⟨rfl, below_then HB3.out hbr⟩
theorem mvarLeaves_walk (f : Bool) (k n : Int) (m s i : ByteArray) (v : Value) (q : List Wt) (id : ByteArray) (hlen : q.length * 88 ≤ 140737488351232) (w : World) (hv : QAt w v q) (hw : Laid w) :
    Calls Tryd.prog 5 #[.agg #[.bool f, .int .i64 k, .int .i64 n, .string m, .string s, .string i, v], .string id] w fun e w' => e = .returned (.bool true) ∧ Below w.heap.size w w' := by
  cases hf : q.findIdx? (fun w => w.id.toList == id.toList) with
  | none => exact mvLeaves_no f k n m s i id q v w hv (by omega) hw hf
  | some j => exact mvLeaves_yes f k n m s i id q v w hv (by omega) hw j hf
end Go.Proofs.YtdpmilffadalkaaDoor
