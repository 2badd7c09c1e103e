/- What is got is right, and is the value whose bytes stand there. The walk: the law answers true; no memory that was there is turned. Conditions: a string has at most 140737488351232 bytes, the listed package variables hold what the program's text lays. -/
import Derived.Test.YtcgelcccboifjaaDoorVLaw
namespace Go.Proofs.YtcgelcccboifjaaDoor
open Go.RowKit
theorem right_sizes {v : Vl} (h : v.right = true) : v.nm.length ≤ 95 ∧ v.l.S.length ≤ 64 ∧ v.l.I.length ≤ 64 := by
  obtain ⟨k, n, m, S, I⟩ := v
  unfold Vl.right at h
  simp only at h ⊢
  split at h
  · simp only [Bool.and_eq_true, List.isEmpty_iff] at h
    obtain ⟨rfl, rfl, rfl⟩ := h
    simp
  · split at h
    · simp only [Bool.and_eq_true, List.isEmpty_iff, Lb.right] at h
      obtain ⟨⟨_, rfl⟩, h1, h2⟩ := h
      exact ⟨by simp, rightFm_length h1, rightFm_length h2⟩
    · split at h
      · simp only [Bool.and_eq_true, Lb.right] at h
        obtain ⟨⟨_, hm⟩, h1, h2⟩ := h
        obtain ⟨x, hx⟩ := Option.isSome_iff_exists.1 hm
        exact ⟨readL_length hx, rightFm_length h1, rightFm_length h2⟩
      · cases h
theorem size_mk (l : List UInt8) : (⟨l.toArray⟩ : ByteArray).size = l.length := rfl
theorem vl_mk (v : Vl) : vl v.k v.n ⟨v.nm.toArray⟩ ⟨v.l.S.toArray⟩ ⟨v.l.I.toArray⟩ = v := rfl
set_option maxRecDepth 100000 in
set_option maxHeartbeats 1000000 in
theorem once_no (s : ByteArray) (a : Int) (w : World) (hw : LaidV w) (hg : ∀ w, LaidV w → Calls Tryd.prog 13 #[.string s, .int .i64 a] w fun e w' => e = vgetE none 0 ∧ Below w.heap.size w w') :
    Calls Tryd.prog 4 #[.string s, .int .i64 a] w fun e w' => e = .returned (.bool true) ∧ Below w.heap.size w w' := by
  dsimp only [vgetE] at hg
  go_enter Tryd.func4, Tryd.ntmps4
  have hB0 := Below.refl w.heap.size w
  have M0 := Mem.nil w
  have hw0 := hw
  go_wp2_with fail
  refine Calls.named ?_
  intro W1 hW1
  have hB1_ : Below w.heap.size w W1 := by rw [hW1]; exact hB0
  have hw1_ : LaidV W1 := by rw [hW1]; exact hw
  have M1_ := Mem.nil W1
  clear hW1
  refine (vexamples_any _ hw1_).mono ?_
  rintro e w1 ⟨rfl, hb1⟩
  have hB1 := below_then hB1_ hb1
  have hw1 := hw1_.below hb1
  have M1 := M1_.below hb1
  clear M1_ hB1_ hb1 hw1_
  go_wp2_with fail
  refine Calls.named ?_
  intro W2 hW2
  have hB2_ : Below w.heap.size w W2 := by rw [hW2]; exact hB1
  have hw2_ : LaidV W2 := by rw [hW2]; exact hw1
  have M2_ := Mem.nil W2
  clear hW2
  refine (hg _ hw2_).mono ?_
  rintro e w2 ⟨rfl, hb2⟩
  have hB2 := below_then hB2_ hb2
  have hw2 := hw2_.below hb2
  have M2 := M2_.below hb2
  clear M2_ hB2_ hb2 hw2_
  go_wp2_with fail
  go_ret
  exact ⟨rfl, below_al hB2 _⟩
set_option maxRecDepth 100000 in
set_option maxHeartbeats 1000000 in
theorem once_yes (s : ByteArray) (hs : s.size ≤ 140737488351232) (a x : Nat) (k n : Int) (M SB IB : ByteArray) (P : List UInt8) (w : World) (hw : LaidV w)
    (hax : a < x) (hxs : x ≤ s.size) (hp : P = (s.data.toList.drop a).take (x - a))
    (hg : ∀ w, LaidV w → Calls Tryd.prog 13 #[.string s, .int .i64 a] w fun e w' => e = .returned (.tuple #[.agg #[.int .i64 k, .int .i64 n, .string M, .string SB, .string IB], .int .i64 x, .bool true]) ∧ Below w.heap.size w w')
    (hr : ∀ w, LaidV w → Calls Tryd.prog 10 #[.agg #[.int .i64 k, .int .i64 n, .string M, .string SB, .string IB]] w fun e w' => e = .returned (.bool true) ∧ Below w.heap.size w w')
    (hq : ∀ w, LaidV w → Calls Tryd.prog 11 #[.agg #[.int .i64 k, .int .i64 n, .string M, .string SB, .string IB]] w fun e w' => e = .returned (.string ⟨P.toArray⟩) ∧ Below w.heap.size w w') :
    Calls Tryd.prog 4 #[.string s, .int .i64 a] w fun e w' => e = .returned (.bool true) ∧ Below w.heap.size w w' := by
  have hb := str_beq (l := P) (s := s.extract a x) (by rw [hp, Lib.extract_data])
  have h0 : (0 : Int) ≤ a := by omega
  have h1 : (a : Int) < x := by omega
  have h2 : (x : Int) ≤ s.size := by omega
  clear hp
  go_enter Tryd.func4, Tryd.ntmps4
  have hB0 := Below.refl w.heap.size w
  have M0 := Mem.nil w
  have hw0 := hw
  go_wp2_with fail
  refine Calls.named ?_
  intro W1 hW1
  have hB1_ : Below w.heap.size w W1 := by rw [hW1]; exact hB0
  have hw1_ : LaidV W1 := by rw [hW1]; exact hw
  have M1_ := Mem.nil W1
  clear hW1
  refine (vexamples_any _ hw1_).mono ?_
  rintro e w1 ⟨rfl, hb1⟩
  have hB1 := below_then hB1_ hb1
  have hw1 := hw1_.below hb1
  have M1 := M1_.below hb1
  clear M1_ hB1_ hb1 hw1_
  go_wp2_with fail
  refine Calls.named ?_
  intro W2 hW2
  have hB2_ : Below w.heap.size w W2 := by rw [hW2]; exact hB1
  have hw2_ : LaidV W2 := by rw [hW2]; exact hw1
  have M2_ := Mem.nil W2
  clear hW2
  refine (hg _ hw2_).mono ?_
  rintro e w2 ⟨rfl, hb2⟩
  have hB2 := below_then hB2_ hb2
  have hw2 := hw2_.below hb2
  have M2 := M2_.below hb2
  clear M2_ hB2_ hb2 hw2_
  go_upto_region 7 with (fail)
  refine wp_named ?_
  intro w3 hW3
  have hB3 : Below w.heap.size w w3 := by rw [hW3]; exact (below_al hB2 _)
  have hw3 : LaidV w3 := by rw [hW3]; exact (hw2.alloc _)
  have M3 := (M2).new' (w2.heap.size) (by rfl) (.cells #[.int .i64 k, .int .i64 n, .string M, .string SB, .string IB] 26)
  rw [← hW3] at M3
  clear hW3
  have c3_0_0 := Mem.cell (v := .int .i64 k) M3.1 0 rfl
  have c3_0_1 := Mem.cell (v := .int .i64 n) M3.1 1 rfl
  have c3_0_2 := Mem.cell (v := .string M) M3.1 2 rfl
  have c3_0_3 := Mem.cell (v := .string SB) M3.1 3 rfl
  have c3_0_4 := Mem.cell (v := .string IB) M3.1 4 rfl
  have z3_0 := Mem.lt M3.1
  have p3_0_0 := fun p : After w3 => Mem.cell (v := .int .i64 k) (Mem.after M3 p).1 0 rfl
  have p3_0_1 := fun p : After w3 => Mem.cell (v := .int .i64 n) (Mem.after M3 p).1 1 rfl
  have p3_0_2 := fun p : After w3 => Mem.cell (v := .string M) (Mem.after M3 p).1 2 rfl
  have p3_0_3 := fun p : After w3 => Mem.cell (v := .string SB) (Mem.after M3 p).1 3 rfl
  have p3_0_4 := fun p : After w3 => Mem.cell (v := .string IB) (Mem.after M3 p).1 4 rfl
  refine wp_region_after (by kernel_rfl) (by kernel_rfl) ?_
  repeat (go_big_quiet_step ((first | (go_at_call 10; with_reducible exact After.call (hr _ ((LaidV.after hw3 _)))) | (go_at_call 11; with_reducible exact After.call (hq _ ((LaidV.after hw3 _)))))))
  refine wpQuiet_nil ?_
  rintro _ ⟨p3, rfl⟩
  clear p3_0_0 p3_0_1 p3_0_2 p3_0_3 p3_0_4
  clear c3_0_0 c3_0_1 c3_0_2 c3_0_3 c3_0_4 z3_0
  obtain ⟨w4, hW4⟩ : ∃ x, x = p3.world := ⟨_, rfl⟩
  have hB4 : Below w.heap.size w w4 := by rw [hW4]; exact below_then hB3 p3.h
  have hw4 : LaidV w4 := by rw [hW4]; exact hw3.below p3.h
  have M4 := M3.below p3.h
  rw [← hW4] at M4
  rw [← hW4]
  clear hW4
  clear p3
  have c4_0_0 := Mem.cell (v := .int .i64 k) M4.1 0 rfl
  have c4_0_1 := Mem.cell (v := .int .i64 n) M4.1 1 rfl
  have c4_0_2 := Mem.cell (v := .string M) M4.1 2 rfl
  have c4_0_3 := Mem.cell (v := .string SB) M4.1 3 rfl
  have c4_0_4 := Mem.cell (v := .string IB) M4.1 4 rfl
  have z4_0 := Mem.lt M4.1
  go_wp2_with fail
  go_ret
  exact ⟨rfl, hB4⟩
theorem valOnce_walk (s : ByteArray) (a : Int) (hs : s.size ≤ 140737488351232) (_ : InI64 a) (w : World) (hw : LaidV w) :
    Calls Tryd.prog 4 #[.string s, .int .i64 a] w fun e w' => e = .returned (.bool true) ∧ Below w.heap.size w w' := by
  by_cases h0 : a < 0
  · exact once_no s a w hw (fun w _ => vget_low s a w h0)
  · obtain ⟨A, rfl⟩ : ∃ A : Nat, a = A := ⟨a.toNat, by omega⟩
    have hg := fun w hw => vget_any s A w (by omega) hw
    cases hv : getV (s.data.toList.drop A) with
    | none =>
      rw [hv] at hg
      exact once_no s A w hw hg
    | some p =>
      obtain ⟨v, n⟩ := p
      rw [hv] at hg
      obtain ⟨h1, h2, h3, h4, h5⟩ := getV_some hv
      obtain ⟨z1, z2, z3⟩ := right_sizes h1
      rw [List.length_drop, Array.length_toList] at h3
      have h3' : n ≤ s.size - A := h3
      have hr := fun w hw => vright_any v.k v.n ⟨v.nm.toArray⟩ ⟨v.l.S.toArray⟩ ⟨v.l.I.toArray⟩ (by rw [size_mk]; omega) (by rw [size_mk]; omega) (by rw [size_mk]; omega) w hw
      have hq := fun w hw => vput_any v.k v.n h2 ⟨v.nm.toArray⟩ ⟨v.l.S.toArray⟩ ⟨v.l.I.toArray⟩ (by rw [size_mk]; omega) (by rw [size_mk]; omega) (by rw [size_mk]; omega) w hw
      rw [vl_mk, h1] at hr
      rw [vl_mk] at hq
      exact once_yes s hs A (A + n) v.k v.n _ _ _ v.put w hw (by omega) (by omega) (by rw [h4]; congr 1; omega) hg hr hq
end Go.Proofs.YtcgelcccboifjaaDoor
