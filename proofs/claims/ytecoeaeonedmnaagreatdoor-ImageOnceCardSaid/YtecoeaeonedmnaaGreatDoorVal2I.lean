/- val.Handle, word, Put, Text. -/
import Derived.Test.YtecoeaeonedmnaaGreatDoorValI
import Derived.Deep.RegionHeld3
import Derived.Deep.RegionWith
namespace Go.Proofs.YtecoeaeonedmnaaGreatDoor
open Go.RowKit
theorem bytes_cons (c : UInt8) (l : List UInt8) : (⟨#[c]⟩ ++ ⟨l.toArray⟩ : ByteArray) = ⟨(c :: l).toArray⟩ := by
  apply ByteArray.ext
  simp [ByteArray.data_append]
theorem putR1 (n : Int) (m s i : ByteArray) : (vl 1 n m s i).putR = 1 :: putL n := rfl
theorem putR2 (n : Int) (m s i : ByteArray) : (vl 2 n m s i).putR = 2 :: (lb s i).put := rfl
theorem conv_at {W : World} {b : Nat} {x : Int} (h : W.cell? ⟨b, 0, none⟩ = some (.int .u8 x)) : (convert 38 9 (.slice (some ⟨b, 0, none⟩) 1 1)).run Tryz.prog W = .ok (.string ⟨#[UInt8.ofNat x.toNat]⟩) W :=
  run_convert_bytes_arg W 38 5 Tryz.underlying38 Tryz.underlying5 b 0 1 1 [x] rfl (fun j hj => by
    obtain rfl : j = 0 := by omega
    exact h) 9 Tryz.underlying9
theorem wrap_u8 {n : Nat} (h : n < 256) : IntKind.u8.wrap (n : Int) = n := by rw [IntKind.wrap_u8']; omega
theorem wpAnyH_more {P : Program} {md : Region.Mode} {ops : Array Oper} {Q : Exit → Act → World → Prop} {S S' : World → Prop} (h : ∀ w, S' w → S w) :
    ∀ (fuel : Nat) (listed : Array Bool) (a : Act) (w : World), wpAnyH P md ops Q S' fuel listed a w → wpAnyH P md ops Q S fuel listed a w
  | 0, _, _, _, k => k
  | fuel + 1, _, _, _, k => ⟨k.1, fun i hi => wpOp_mono (fun _ _ k' => ⟨h _ k'.1, wpAnyH_more h fuel _ _ _ k'.2⟩) (k.2 i hi)⟩
theorem put_no {k n : Int} {m s i : ByteArray} (h : (vl k n m s i).right = false) : (vl k n m s i).put = [] := by
  unfold Vl.put
  rw [h]
  rfl
set_option maxRecDepth 100000 in
set_option maxHeartbeats 1000000 in
theorem vput_no (k n : Int) (m s i : ByteArray) (hm : m.size ≤ 140737488351232) (hs : s.size ≤ 140737488351232) (hi : i.size ≤ 140737488351232) (w : World) (hw : LaidV w) (h : (vl k n m s i).right = false) :
    Calls Tryz.prog 14 #[.agg #[.int .i64 k, .int .i64 n, .string m, .string s, .string i]] w fun e w' => e = .returned (.string ⟨#[]⟩) ∧ Below w.heap.size w w' := by
  have hv := fun w => vright_any k n m s i hm hs hi w
  rw [h] at hv
  clear h
  go_enter Tryz.func14, Tryz.ntmps14
  have hB0 := Below.refl w.heap.size w
  have M0 := Mem.nil w
  go_wp2_with fail
  refine Calls.named ?_
  intro W1 hW1
  have hB1_ : Below w.heap.size w W1 := by rw [hW1]; exact (below_al hB0 _)
  have hw1_ : LaidV W1 := by rw [hW1]; exact (hw.alloc _)
  have M1_ := (M0).new' (w.heap.size) (by rfl) (.cells #[.int .i64 k, .int .i64 n, .string m, .string s, .string i] 50)
  rw [← hW1] at M1_
  clear hW1
  have ZZ1_0 := Lib.hid (Mem.lt M1_.1)
  refine (hv _ hw1_).mono ?_
  rintro e w1 ⟨rfl, hb1⟩
  have hB1 := below_then hB1_ hb1
  have hw1 := hw1_.below hb1
  have M1 := M1_.below hb1
  clear M1_ hB1_ hb1 hw1_
  have c1_0_0 := Mem.cell (v := .int .i64 k) M1.1 0 rfl
  have c1_0_1 := Mem.cell (v := .int .i64 n) M1.1 1 rfl
  have c1_0_2 := Mem.cell (v := .string m) M1.1 2 rfl
  have c1_0_3 := Mem.cell (v := .string s) M1.1 3 rfl
  have c1_0_4 := Mem.cell (v := .string i) M1.1 4 rfl
  have z1_0 := Mem.lt M1.1
  go_wp2_with fail
  go_ret
  exact ⟨rfl, hB1⟩
set_option maxRecDepth 100000 in
set_option maxHeartbeats 1000000 in
theorem vput1 (n : Int) (hn : InI64 n) (m s i : ByteArray) (hm : m.size ≤ 140737488351232) (hs : s.size ≤ 140737488351232) (hi : i.size ≤ 140737488351232) (w : World) (hw : LaidV w) (h : (vl 1 n m s i).right = true) :
    Calls Tryz.prog 14 #[.agg #[.int .i64 1, .int .i64 n, .string m, .string s, .string i]] w fun e w' => e = .returned (.string ⟨(vl 1 n m s i).putR.toArray⟩) ∧ Below w.heap.size w w' := by
  have hv := fun w => vright_any 1 n m s i hm hs hi w
  rw [h] at hv
  clear h
  have hR : Hid (Ending.returned (.string (⟨#[1]⟩ ++ ⟨(putL n).toArray⟩)) = .returned (.string ⟨(vl 1 n m s i).putR.toArray⟩)) := Lib.hid (ret_str (by
    rw [putR1, bytes_cons]))
  obtain ⟨A, hA⟩ : ∃ A, A = Ending.returned (.string ⟨(vl 1 n m s i).putR.toArray⟩) := ⟨_, rfl⟩
  rw [← hA] at hR ⊢
  clear hA
  have hp := put_any n
  have hl := putL_length n
  obtain ⟨P, hP⟩ : ∃ P, P = putL n := ⟨_, rfl⟩
  rw [← hP] at hR hp hl
  clear hP
  have hcv := run_convert_one (P := Tryz.prog) 38 5 9 Tryz.underlying38 Tryz.underlying5 Tryz.underlying9
  go_enter Tryz.func14, Tryz.ntmps14
  have hB0 := Below.refl w.heap.size w
  have M0 := Mem.nil w
  go_wp2_with fail
  refine Calls.named ?_
  intro W1 hW1
  have hB1_ : Below w.heap.size w W1 := by rw [hW1]; exact (below_al hB0 _)
  have hw1_ : LaidV W1 := by rw [hW1]; exact (hw.alloc _)
  have M1_ := (M0).new' (w.heap.size) (by rfl) (.cells #[.int .i64 1, .int .i64 n, .string m, .string s, .string i] 50)
  rw [← hW1] at M1_
  clear hW1
  have ZZ1_0 := Lib.hid (Mem.lt M1_.1)
  refine (hv _ hw1_).mono ?_
  rintro e w1 ⟨rfl, hb1⟩
  have hB1 := below_then hB1_ hb1
  have hw1 := hw1_.below hb1
  have M1 := M1_.below hb1
  clear M1_ hB1_ hb1 hw1_
  have c1_0_0 := Mem.cell (v := .int .i64 1) M1.1 0 rfl
  have c1_0_1 := Mem.cell (v := .int .i64 n) M1.1 1 rfl
  have c1_0_2 := Mem.cell (v := .string m) M1.1 2 rfl
  have c1_0_3 := Mem.cell (v := .string s) M1.1 3 rfl
  have c1_0_4 := Mem.cell (v := .string i) M1.1 4 rfl
  have z1_0 := Mem.lt M1.1
  go_wp2_with fail
  refine Calls.named ?_
  intro W2 hW2
  have hB2_ : Below w.heap.size w W2 := by rw [hW2]; exact (below_al hB1 _)
  have hw2_ : LaidV W2 := by rw [hW2]; exact (hw1.alloc _)
  have M2_ := (M1).new' (w1.heap.size) (by rfl) (.cells #[.int .u8 1] 5)
  rw [← hW2] at M2_
  clear hW2
  have ZZ2_0 := Lib.hid (Mem.lt M2_.1)
  have ZZ2_1 := Lib.hid (Mem.lt M2_.2.1)
  clear c1_0_0 c1_0_1 c1_0_2 c1_0_3 c1_0_4 z1_0
  refine (hp _ hn).mono ?_
  rintro e w2 ⟨rfl, hb2⟩
  have hB2 := below_then hB2_ hb2
  have hw2 := hw2_.below hb2
  have M2 := M2_.below hb2
  clear M2_ hB2_ hb2 hw2_
  have c2_0_0 := Mem.cell (v := .int .u8 1) M2.1 0 rfl
  have z2_0 := Mem.lt M2.1
  have c2_1_0 := Mem.cell (v := .int .i64 1) M2.2.1 0 rfl
  have c2_1_1 := Mem.cell (v := .int .i64 n) M2.2.1 1 rfl
  have c2_1_2 := Mem.cell (v := .string m) M2.2.1 2 rfl
  have c2_1_3 := Mem.cell (v := .string s) M2.2.1 3 rfl
  have c2_1_4 := Mem.cell (v := .string i) M2.2.1 4 rfl
  have z2_1 := Mem.lt M2.2.1
  go_wp2_with fail
  go_ret
  exact ⟨hR.out, hB2⟩
set_option maxRecDepth 100000 in
set_option maxHeartbeats 1000000 in
theorem vput2 (n : Int) (m s i : ByteArray) (hm : m.size ≤ 140737488351232) (hs : s.size ≤ 140737488351232) (hi : i.size ≤ 140737488351232) (w : World) (hw : LaidV w) (h : (vl 2 n m s i).right = true) :
    Calls Tryz.prog 14 #[.agg #[.int .i64 2, .int .i64 n, .string m, .string s, .string i]] w fun e w' => e = .returned (.string ⟨(vl 2 n m s i).putR.toArray⟩) ∧ Below w.heap.size w w' := by
  have hv := fun w => vright_any 2 n m s i hm hs hi w
  rw [h] at hv
  clear h
  have hR : Hid (Ending.returned (.string (⟨#[2]⟩ ++ ⟨(lb s i).put.toArray⟩)) = .returned (.string ⟨(vl 2 n m s i).putR.toArray⟩)) := Lib.hid (ret_str (by
    rw [putR2, bytes_cons]))
  obtain ⟨A, hA⟩ : ∃ A, A = Ending.returned (.string ⟨(vl 2 n m s i).putR.toArray⟩) := ⟨_, rfl⟩
  rw [← hA] at hR ⊢
  clear hA
  have hp := lput_any s i hs hi
  have hl := Lb.put_length (lb s i)
  obtain ⟨P, hP⟩ : ∃ P, P = (lb s i).put := ⟨_, rfl⟩
  rw [← hP] at hR hp hl
  clear hP
  have hcv := run_convert_one (P := Tryz.prog) 38 5 9 Tryz.underlying38 Tryz.underlying5 Tryz.underlying9
  go_enter Tryz.func14, Tryz.ntmps14
  have hB0 := Below.refl w.heap.size w
  have M0 := Mem.nil w
  go_wp2_with fail
  refine Calls.named ?_
  intro W1 hW1
  have hB1_ : Below w.heap.size w W1 := by rw [hW1]; exact (below_al hB0 _)
  have hw1_ : LaidV W1 := by rw [hW1]; exact (hw.alloc _)
  have M1_ := (M0).new' (w.heap.size) (by rfl) (.cells #[.int .i64 2, .int .i64 n, .string m, .string s, .string i] 50)
  rw [← hW1] at M1_
  clear hW1
  have ZZ1_0 := Lib.hid (Mem.lt M1_.1)
  refine (hv _ hw1_).mono ?_
  rintro e w1 ⟨rfl, hb1⟩
  have hB1 := below_then hB1_ hb1
  have hw1 := hw1_.below hb1
  have M1 := M1_.below hb1
  clear M1_ hB1_ hb1 hw1_
  have c1_0_0 := Mem.cell (v := .int .i64 2) M1.1 0 rfl
  have c1_0_1 := Mem.cell (v := .int .i64 n) M1.1 1 rfl
  have c1_0_2 := Mem.cell (v := .string m) M1.1 2 rfl
  have c1_0_3 := Mem.cell (v := .string s) M1.1 3 rfl
  have c1_0_4 := Mem.cell (v := .string i) M1.1 4 rfl
  have z1_0 := Mem.lt M1.1
  go_wp2_with fail
  refine Calls.named ?_
  intro W2 hW2
  have hB2_ : Below w.heap.size w W2 := by rw [hW2]; exact (below_al hB1 _)
  have hw2_ : LaidV W2 := by rw [hW2]; exact (hw1.alloc _)
  have M2_ := (M1).new' (w1.heap.size) (by rfl) (.cells #[.int .u8 2] 5)
  rw [← hW2] at M2_
  clear hW2
  have ZZ2_0 := Lib.hid (Mem.lt M2_.1)
  have ZZ2_1 := Lib.hid (Mem.lt M2_.2.1)
  clear c1_0_0 c1_0_1 c1_0_2 c1_0_3 c1_0_4 z1_0
  refine (hp _).mono ?_
  rintro e w2 ⟨rfl, hb2⟩
  have hB2 := below_then hB2_ hb2
  have hw2 := hw2_.below hb2
  have M2 := M2_.below hb2
  clear M2_ hB2_ hb2 hw2_
  have c2_0_0 := Mem.cell (v := .int .u8 2) M2.1 0 rfl
  have z2_0 := Mem.lt M2.1
  have c2_1_0 := Mem.cell (v := .int .i64 2) M2.2.1 0 rfl
  have c2_1_1 := Mem.cell (v := .int .i64 n) M2.2.1 1 rfl
  have c2_1_2 := Mem.cell (v := .string m) M2.2.1 2 rfl
  have c2_1_3 := Mem.cell (v := .string s) M2.2.1 3 rfl
  have c2_1_4 := Mem.cell (v := .string i) M2.2.1 4 rfl
  have z2_1 := Mem.lt M2.2.1
  go_wp2_with fail
  go_ret
  exact ⟨hR.out, hB2⟩
set_option maxRecDepth 100000 in
set_option maxHeartbeats 2000000 in
theorem vput3 (k n : Int) (hk : 3 ≤ k ∧ k ≤ 7) (m s i : ByteArray) (hm : m.size ≤ 140737488351232) (hs : s.size ≤ 140737488351232) (hi : i.size ≤ 140737488351232) (w : World) (hw : LaidV w) (h : (vl k n m s i).right = true) :
    Calls Tryz.prog 14 #[.agg #[.int .i64 k, .int .i64 n, .string m, .string s, .string i]] w fun e w' => e = .returned (.string ⟨(vl k n m s i).putR.toArray⟩) ∧ Below w.heap.size w w' := by
  have hv := fun w => vright_any k n m s i hm hs hi w
  rw [h] at hv
  have hml : m.size ≤ 95 := by
    rw [right3 hk.1 hk.2] at h
    simp only [Bool.and_eq_true] at h
    obtain ⟨x, hx⟩ := Option.isSome_iff_exists.1 h.1.2
    have := readL_length hx
    rwa [Array.length_toList] at this
  clear h
  obtain ⟨K, rfl⟩ : ∃ K : Nat, k = K := ⟨k.toNat, by omega⟩
  have hR : Hid (Ending.returned (.string (((⟨#[UInt8.ofNat K]⟩ ++ ⟨#[UInt8.ofNat m.size]⟩) ++ m) ++ ⟨(lb s i).put.toArray⟩)) = .returned (.string ⟨(vl K n m s i).putR.toArray⟩)) := Lib.hid (ret_str (by
    unfold vl Vl.putR
    have e1 : ¬ (K : Int) = 1 := by omega
    have e2 : ¬ (K : Int) = 2 := by omega
    have e3 : ((K : Int)).toNat = K := by omega
    simp only [if_neg e1, if_neg e2, e3]
    rw [← bytes_cons, ← bytes_cons, ByteArray.append_assoc, ByteArray.append_assoc]
    congr 2))
  obtain ⟨A, hA⟩ : ∃ A, A = Ending.returned (.string ⟨(vl K n m s i).putR.toArray⟩) := ⟨_, rfl⟩
  rw [← hA] at hR ⊢
  clear hA
  have hp := lput_any s i hs hi
  have hl := Lb.put_length (lb s i)
  obtain ⟨P, hP⟩ : ∃ P, P = (lb s i).put := ⟨_, rfl⟩
  rw [← hP] at hR hp hl
  clear hP
  have hcv := run_convert_one (P := Tryz.prog) 38 5 9 Tryz.underlying38 Tryz.underlying5 Tryz.underlying9
  have kI := hk
  have k1 := int_ne (k := (K : Int)) (j := 1) (by omega)
  have k2 := int_ne (k := (K : Int)) (j := 2) (by omega)
  go_enter Tryz.func14, Tryz.ntmps14
  have hB0 := Below.refl w.heap.size w
  have M0 := Mem.nil w
  go_wp2_with fail
  refine Calls.named ?_
  intro W1 hW1
  have hB1_ : Below w.heap.size w W1 := by rw [hW1]; exact (below_al hB0 _)
  have hw1_ : LaidV W1 := by rw [hW1]; exact (hw.alloc _)
  have M1_ := (M0).new' (w.heap.size) (by rfl) (.cells #[.int .i64 K, .int .i64 n, .string m, .string s, .string i] 50)
  rw [← hW1] at M1_
  clear hW1
  have ZZ1_0 := Lib.hid (Mem.lt M1_.1)
  refine (hv _ hw1_).mono ?_
  rintro e w1 ⟨rfl, hb1⟩
  have hB1 := below_then hB1_ hb1
  have hw1 := hw1_.below hb1
  have M1 := M1_.below hb1
  clear M1_ hB1_ hb1 hw1_
  have c1_0_0 := Mem.cell (v := .int .i64 K) M1.1 0 rfl
  have c1_0_1 := Mem.cell (v := .int .i64 n) M1.1 1 rfl
  have c1_0_2 := Mem.cell (v := .string m) M1.1 2 rfl
  have c1_0_3 := Mem.cell (v := .string s) M1.1 3 rfl
  have c1_0_4 := Mem.cell (v := .string i) M1.1 4 rfl
  have z1_0 := Mem.lt M1.1
  go_upto_region 9 with (fail)
  refine wp_named ?_
  intro w2 hW2
  have hB2 : Below w.heap.size w w2 := by rw [hW2]; exact (below_al hB1 _)
  have hw2 : LaidV w2 := by rw [hW2]; exact (hw1.alloc _)
  have M2 := (M1).new' (w1.heap.size) (by rfl) (.cells #[.int .u8 K] 5)
  rw [← hW2] at M2
  clear c1_0_0 c1_0_1 c1_0_2 c1_0_3 c1_0_4 z1_0
  clear hW2
  have c2_0_0 := Mem.cell (v := .int .u8 K) M2.1 0 rfl
  have z2_0 := Mem.lt M2.1
  have c2_1_0 := Mem.cell (v := .int .i64 K) M2.2.1 0 rfl
  have c2_1_1 := Mem.cell (v := .int .i64 n) M2.2.1 1 rfl
  have c2_1_2 := Mem.cell (v := .string m) M2.2.1 2 rfl
  have c2_1_3 := Mem.cell (v := .string s) M2.2.1 3 rfl
  have c2_1_4 := Mem.cell (v := .string i) M2.2.1 4 rfl
  have z2_1 := Mem.lt M2.2.1
  have HB2 := Lib.hid hB2
  have hlt2 : w.heap.size < w2.heap.size := z2_1
  have hwr := wrap_u8 (n := m.size) (by omega)
  have hcw := fun (W : World) (b : Nat) (h : W.cell? ⟨b, 0, none⟩ = some (.int .u8 (m.size : Int))) => conv_at h
  clear hcv
  have hs1 : ¬ 9223372036854775807 < 2 + m.size := by omega
  have hs2 : ¬ 9223372036854775807 < 2 + m.size + P.length := by omega
  refine wp_region_held_drew (S := fun w' => w'.cell? ⟨w.heap.size, 2, none⟩ = some (.string m) ∧ w'.cell? ⟨w.heap.size, 3, none⟩ = some (.string s) ∧ w'.cell? ⟨w.heap.size, 4, none⟩ = some (.string i)) (by kernel_rfl) ⟨c2_1_2, c2_1_3, c2_1_4⟩ (fun hHeld => ?_)
  refine wpAnyH_take (i := 0) (v := ?_) rfl (by kernel_rfl) (by kernel_rfl) (by kernel_rfl) (fun _ _ _ h => h) (Or.inl ⟨by rfl, ?hy⟩) (by assumption) ?_
  case hy =>
    intro W hSw
    try dsimp only at hSw
    go_simp
    try with_reducible rfl
  try simp only [Act.put, List.getElem_toArray, List.getElem_cons_zero, List.setIfInBounds_toArray, List.set_cons_zero, List.set_cons_succ]
  refine wpAnyH_take (i := 1) (v := ?_) rfl (by kernel_rfl) (by kernel_rfl) (by kernel_rfl) (fun _ _ _ h => h) (Or.inl ⟨by rfl, ?hy⟩) (by assumption) ?_
  case hy =>
    intro W hSw
    try dsimp only at hSw
    go_simp
    try with_reducible rfl
  try simp only [Act.put, List.getElem_toArray, List.getElem_cons_succ, List.getElem_cons_zero, List.setIfInBounds_toArray, List.set_cons_zero, List.set_cons_succ]
  refine wpAnyH_take (i := 8) (v := ?_) rfl (by kernel_rfl) (by kernel_rfl) (by kernel_rfl) (fun _ _ _ h => h) (Or.inl ⟨by rfl, ?hy⟩) (by assumption) ?_
  case hy =>
    intro W hSw
    try dsimp only at hSw
    go_simp
    try with_reducible rfl
  try simp only [Act.put, List.getElem_toArray, List.getElem_cons_succ, List.getElem_cons_zero, List.setIfInBounds_toArray, List.set_cons_zero, List.set_cons_succ]
  refine wpAnyH_take (i := 11) (v := ?_) rfl (by kernel_rfl) (by kernel_rfl) (by kernel_rfl) (fun _ _ _ h => h) (Or.inl ⟨by rfl, ?hy⟩) (by assumption) ?_
  case hy =>
    intro W hSw
    try dsimp only at hSw
    go_simp
    try with_reducible rfl
  try simp only [Act.put, List.getElem_toArray, List.getElem_cons_succ, List.getElem_cons_zero, List.setIfInBounds_toArray, List.set_cons_zero, List.set_cons_succ]
  refine wpAnyH_take (i := 2) (v := ?_) rfl (by kernel_rfl) (by kernel_rfl) (by kernel_rfl) (fun _ _ _ h => h) (Or.inl ⟨by rfl, ?hy⟩) (by assumption) ?_
  case hy =>
    intro W hSw
    try dsimp only at hSw
    go_simp
    try with_reducible rfl
  try simp only [Act.put, List.getElem_toArray, List.getElem_cons_succ, List.getElem_cons_zero, List.setIfInBounds_toArray, List.set_cons_zero, List.set_cons_succ]
  refine wpAnyH_take (i := 9) (v := ?_) rfl (by kernel_rfl) (by kernel_rfl) (by kernel_rfl) (fun _ _ _ h => h) (Or.inl ⟨by rfl, ?hy⟩) (by assumption) ?_
  case hy =>
    intro W hSw
    try dsimp only at hSw
    go_simp
    try with_reducible rfl
  try simp only [Act.put, List.getElem_toArray, List.getElem_cons_succ, List.getElem_cons_zero, List.setIfInBounds_toArray, List.set_cons_zero, List.set_cons_succ]
  refine wpAnyH_take (i := 12) (v := ?_) rfl (by kernel_rfl) (by kernel_rfl) (by kernel_rfl) (fun _ _ _ h => h) (Or.inl ⟨by rfl, ?hy⟩) (by assumption) ?_
  case hy =>
    intro W hSw
    try dsimp only at hSw
    go_simp
    try with_reducible rfl
  try simp only [Act.put, List.getElem_toArray, List.getElem_cons_succ, List.getElem_cons_zero, List.setIfInBounds_toArray, List.set_cons_zero, List.set_cons_succ]
  refine wpAnyH_take (i := 3) (v := ?_) rfl (by kernel_rfl) (by kernel_rfl) (by kernel_rfl) (fun _ _ _ h => h) (Or.inl ⟨by rfl, ?hy⟩) (by assumption) ?_
  case hy =>
    intro W hSw
    try dsimp only at hSw
    go_simp
    try with_reducible rfl
  try simp only [Act.put, List.getElem_toArray, List.getElem_cons_succ, List.getElem_cons_zero, List.setIfInBounds_toArray, List.set_cons_zero, List.set_cons_succ]
  refine wpAnyH_take (i := 4) (v := ?_) rfl (by kernel_rfl) (by kernel_rfl) (by kernel_rfl) (fun _ _ _ h => h) (Or.inl ⟨by rfl, ?hy⟩) (by assumption) ?_
  case hy =>
    intro W hSw
    try dsimp only at hSw
    go_simp
    try with_reducible rfl
  try simp only [Act.put, List.getElem_toArray, List.getElem_cons_succ, List.getElem_cons_zero, List.setIfInBounds_toArray, List.set_cons_zero, List.set_cons_succ]
  refine wpAnyH_ready (rs := [5, 13]) (by kernel_rfl) (by simp) ?_
  refine AllReadyH.cons rfl (fun K hK => ?_) (AllReadyH.cons rfl (fun K hK => ?_) AllReadyH.nil)
  · go_simp
    refine hK.out _ _ ?_ (fun hHeld2 => ?_)
    · go_keep
    clear hK K
    try simp only [Act.put, List.getElem_toArray, List.getElem_cons_succ, List.getElem_cons_zero, List.setIfInBounds_toArray, List.set_cons_zero, List.set_cons_succ]
    refine wpAnyH_more (S' := fun w' => (w'.cell? ⟨w.heap.size, 2, none⟩ = some (.string m) ∧ w'.cell? ⟨w.heap.size, 3, none⟩ = some (.string s) ∧ w'.cell? ⟨w.heap.size, 4, none⟩ = some (.string i)) ∧ w'.cell? ⟨w2.heap.size, 0, none⟩ = some (.int .u8 (m.size : Int))) (fun _ h => h.1) _ _ _ _ ?_
    have hHeld3 : ((w2.alloc (.cells #[.int .u8 (m.size : Int)] 5)).drew.cell? ⟨w.heap.size, 2, none⟩ = some (.string m) ∧ (w2.alloc (.cells #[.int .u8 (m.size : Int)] 5)).drew.cell? ⟨w.heap.size, 3, none⟩ = some (.string s) ∧ (w2.alloc (.cells #[.int .u8 (m.size : Int)] 5)).drew.cell? ⟨w.heap.size, 4, none⟩ = some (.string i)) ∧ (w2.alloc (.cells #[.int .u8 (m.size : Int)] 5)).drew.cell? ⟨w2.heap.size, 0, none⟩ = some (.int .u8 (m.size : Int)) := ⟨hHeld2, World.cell?_alloc_new w2 _ _ 0⟩
    refine wpAnyH_take (i := 6) (v := ?_) rfl (by kernel_rfl) (by kernel_rfl) (by kernel_rfl) (fun _ _ _ h => h) (Or.inl ⟨by rfl, ?hy⟩) (by assumption) ?_
    case hy =>
      intro W hSw
      try dsimp only at hSw
      go_simp
      try with_reducible rfl
    try simp only [Act.put, List.getElem_toArray, List.getElem_cons_succ, List.getElem_cons_zero, List.setIfInBounds_toArray, List.set_cons_zero, List.set_cons_succ]
    refine wpAnyH_take (i := 7) (v := ?_) rfl (by kernel_rfl) (by kernel_rfl) (by kernel_rfl) (fun _ _ _ h => h) (Or.inl ⟨by rfl, ?hy⟩) (by assumption) ?_
    case hy =>
      intro W hSw
      try dsimp only at hSw
      go_simp
      try with_reducible rfl
    try simp only [Act.put, List.getElem_toArray, List.getElem_cons_succ, List.getElem_cons_zero, List.setIfInBounds_toArray, List.set_cons_zero, List.set_cons_succ]
    refine wpAnyH_take (i := 10) (v := ?_) rfl (by kernel_rfl) (by kernel_rfl) (by kernel_rfl) (fun _ _ _ h => h) (Or.inl ⟨by rfl, ?hy⟩) (by assumption) ?_
    case hy =>
      intro W hSw
      try dsimp only at hSw
      go_simp
      try with_reducible rfl
    try simp only [Act.put, List.getElem_toArray, List.getElem_cons_succ, List.getElem_cons_zero, List.setIfInBounds_toArray, List.set_cons_zero, List.set_cons_succ]
    refine wpAnyH_ready (rs := [13]) (by kernel_rfl) (by simp) ?_
    refine AllReadyH.cons rfl (fun K hK => ?_) AllReadyH.nil
    go_simp
    refine (hp _).mono ?_
    rintro e w3 ⟨rfl, hb3⟩
    have hg3 := fun o => hb3.cell (p := ⟨w.heap.size, o, none⟩) (by simp; omega)
    have hg4 := fun o => hb3.cell (p := ⟨w2.heap.size, o, none⟩) (by simp)
    refine hK.out _ _ ⟨⟨(hg3 2).trans hHeld3.1.1, (hg3 3).trans hHeld3.1.2.1, (hg3 4).trans hHeld3.1.2.2⟩, (hg4 0).trans hHeld3.2⟩ (fun hHeld4 => ?_)
    clear hK K
    try simp only [Act.put, List.getElem_toArray, List.getElem_cons_succ, List.getElem_cons_zero, List.setIfInBounds_toArray, List.set_cons_zero, List.set_cons_succ]
    refine wpAnyH_take (i := 14) (v := ?_) rfl (by kernel_rfl) (by kernel_rfl) (by kernel_rfl) (fun _ _ _ h => h) (Or.inl ⟨by rfl, ?hy⟩) (by assumption) ?_
    case hy =>
      intro W hSw
      try dsimp only at hSw
      go_simp
      try with_reducible rfl
    try simp only [Act.put, List.getElem_toArray, List.getElem_cons_succ, List.getElem_cons_zero, List.setIfInBounds_toArray, List.set_cons_zero, List.set_cons_succ]
    refine wpAnyH_take (i := 15) (v := ?_) rfl (by kernel_rfl) (by kernel_rfl) (by kernel_rfl) (fun _ _ _ h => h) (Or.inl ⟨by rfl, ?hy⟩) (by assumption) ?_
    case hy =>
      intro W hSw
      try dsimp only at hSw
      go_simp
      try with_reducible rfl
    try simp only [Act.put, List.getElem_toArray, List.getElem_cons_succ, List.getElem_cons_zero, List.setIfInBounds_toArray, List.set_cons_zero, List.set_cons_succ]
    refine wpAnyH_done (by kernel_rfl) ?_ _
    have hBe := below_then (below_dr (below_al HB2.out _)) hb3
    clear hb3 hg3 hg4 hHeld hHeld2 hHeld3 hHeld4
    go_wp2
    go_ret
    exact ⟨hR.out, hBe⟩
  · go_simp
    refine (hp _).mono ?_
    rintro e w3 ⟨rfl, hb3⟩
    have hg3 := fun o => hb3.cell (p := ⟨w.heap.size, o, none⟩) (by simp; omega)
    have hz3 := hb3.size
    have hlt3 : w.heap.size < w3.heap.size := by simp at hz3; omega
    refine hK.out _ _ ⟨(hg3 2).trans hHeld.1, (hg3 3).trans hHeld.2.1, (hg3 4).trans hHeld.2.2⟩ (fun hHeld2 => ?_)
    clear hK K
    try simp only [Act.put, List.getElem_toArray, List.getElem_cons_succ, List.getElem_cons_zero, List.setIfInBounds_toArray, List.set_cons_zero, List.set_cons_succ]
    refine wpAnyH_ready (rs := [5]) (by kernel_rfl) (by simp) ?_
    refine AllReadyH.cons rfl (fun K hK => ?_) AllReadyH.nil
    go_simp
    refine hK.out _ _ ?_ (fun hHeld3 => ?_)
    · go_keep
    clear hK K
    try simp only [Act.put, List.getElem_toArray, List.getElem_cons_succ, List.getElem_cons_zero, List.setIfInBounds_toArray, List.set_cons_zero, List.set_cons_succ]
    refine wpAnyH_more (S' := fun w' => (w'.cell? ⟨w.heap.size, 2, none⟩ = some (.string m) ∧ w'.cell? ⟨w.heap.size, 3, none⟩ = some (.string s) ∧ w'.cell? ⟨w.heap.size, 4, none⟩ = some (.string i)) ∧ w'.cell? ⟨w3.heap.size, 0, none⟩ = some (.int .u8 (m.size : Int))) (fun _ h => h.1) _ _ _ _ ?_
    have hHeld4 : ((w3.alloc (.cells #[.int .u8 (m.size : Int)] 5)).cell? ⟨w.heap.size, 2, none⟩ = some (.string m) ∧ (w3.alloc (.cells #[.int .u8 (m.size : Int)] 5)).cell? ⟨w.heap.size, 3, none⟩ = some (.string s) ∧ (w3.alloc (.cells #[.int .u8 (m.size : Int)] 5)).cell? ⟨w.heap.size, 4, none⟩ = some (.string i)) ∧ (w3.alloc (.cells #[.int .u8 (m.size : Int)] 5)).cell? ⟨w3.heap.size, 0, none⟩ = some (.int .u8 (m.size : Int)) := ⟨hHeld3, World.cell?_alloc_new w3 _ _ 0⟩
    refine wpAnyH_take (i := 6) (v := ?_) rfl (by kernel_rfl) (by kernel_rfl) (by kernel_rfl) (fun _ _ _ h => h) (Or.inl ⟨by rfl, ?hy⟩) (by assumption) ?_
    case hy =>
      intro W hSw
      try dsimp only at hSw
      go_simp
      try with_reducible rfl
    try simp only [Act.put, List.getElem_toArray, List.getElem_cons_succ, List.getElem_cons_zero, List.setIfInBounds_toArray, List.set_cons_zero, List.set_cons_succ]
    refine wpAnyH_take (i := 7) (v := ?_) rfl (by kernel_rfl) (by kernel_rfl) (by kernel_rfl) (fun _ _ _ h => h) (Or.inl ⟨by rfl, ?hy⟩) (by assumption) ?_
    case hy =>
      intro W hSw
      try dsimp only at hSw
      go_simp
      try with_reducible rfl
    try simp only [Act.put, List.getElem_toArray, List.getElem_cons_succ, List.getElem_cons_zero, List.setIfInBounds_toArray, List.set_cons_zero, List.set_cons_succ]
    refine wpAnyH_take (i := 10) (v := ?_) rfl (by kernel_rfl) (by kernel_rfl) (by kernel_rfl) (fun _ _ _ h => h) (Or.inl ⟨by rfl, ?hy⟩) (by assumption) ?_
    case hy =>
      intro W hSw
      try dsimp only at hSw
      go_simp
      try with_reducible rfl
    try simp only [Act.put, List.getElem_toArray, List.getElem_cons_succ, List.getElem_cons_zero, List.setIfInBounds_toArray, List.set_cons_zero, List.set_cons_succ]
    refine wpAnyH_take (i := 14) (v := ?_) rfl (by kernel_rfl) (by kernel_rfl) (by kernel_rfl) (fun _ _ _ h => h) (Or.inl ⟨by rfl, ?hy⟩) (by assumption) ?_
    case hy =>
      intro W hSw
      try dsimp only at hSw
      go_simp
      try with_reducible rfl
    try simp only [Act.put, List.getElem_toArray, List.getElem_cons_succ, List.getElem_cons_zero, List.setIfInBounds_toArray, List.set_cons_zero, List.set_cons_succ]
    refine wpAnyH_take (i := 15) (v := ?_) rfl (by kernel_rfl) (by kernel_rfl) (by kernel_rfl) (fun _ _ _ h => h) (Or.inl ⟨by rfl, ?hy⟩) (by assumption) ?_
    case hy =>
      intro W hSw
      try dsimp only at hSw
      go_simp
      try with_reducible rfl
    try simp only [Act.put, List.getElem_toArray, List.getElem_cons_succ, List.getElem_cons_zero, List.setIfInBounds_toArray, List.set_cons_zero, List.set_cons_succ]
    refine wpAnyH_done (by kernel_rfl) ?_ _
    have hBe := below_al (below_then (below_dr HB2.out) hb3) (.cells #[.int .u8 (m.size : Int)] 5)
    clear hb3 hg3 hz3 hHeld hHeld2 hHeld3 hHeld4
    go_wp2
    go_ret
    exact ⟨hR.out, hBe⟩
end Go.Proofs.YtecoeaeonedmnaaGreatDoor
