/- label.Flows, Join, Meet, High. -/
import Derived.Test.YtlkgcidhhngfeaaGreatDoorOr
namespace Go.Proofs.YtlkgcidhhngfeaaGreatDoor
open Go.RowKit
/-- the sizes of a label's halves -/
abbrev Bd (s : ByteArray) : Prop := s.size ≤ 140737488351232
def NOr (a b : ByteArray) : ByteArray := NB ⟨(unionL (normL a.data.toList) (normL b.data.toList)).toArray⟩
def NAnd (a b : ByteArray) : ByteArray := NB (NB a ++ NB b)
theorem nb_list (s : ByteArray) : (NB s).data.toList = normL s.data.toList := by unfold NB; rfl
theorem or_any (a b : ByteArray) (ha : Bd a) (hb : Bd b) (w : World) :
    Calls Tryz.prog 44 #[.string a, .string b] w fun e w' => e = .returned (.string (NOr a b)) ∧ Below w.heap.size w w' :=
  or_gen a b (NB a) (NB b) _ _ (nb_list a).symm (nb_list b).symm (nb_size a) (nb_size b) _ (nnorm_any a ha) (nnorm_any b hb) (nnorm_any _ (by
    show (unionL (normL a.data.toList) (normL b.data.toList)).toArray.size ≤ _
    rw [List.size_toArray, unionL_length]
    exact Nat.le_trans (Nat.mul_le_mul (normL_length _) (normL_length _)) (by omega))) w
theorem nand_any (a b : ByteArray) (ha : Bd a) (hb : Bd b) (w : World) :
    Calls Tryz.prog 45 #[.string a, .string b] w fun e w' => e = .returned (.string (NAnd a b)) ∧ Below w.heap.size w w' := and_any a b ha hb w
theorem nor_size (a b : ByteArray) : (NOr a b).size ≤ 64 := nb_size _
theorem nand_size (a b : ByteArray) : (NAnd a b).size ≤ 64 := nb_size _
set_option maxRecDepth 100000 in
set_option maxHeartbeats 1000000 in
theorem flows_gen (aS aI bS bI : ByteArray) (p q : Bool)
    (h1 : ∀ w, Calls Tryz.prog 35 #[.string bS, .string aS] w fun e w' => e = .returned (.bool p) ∧ Below w.heap.size w w')
    (h2 : ∀ w, Calls Tryz.prog 35 #[.string aI, .string bI] w fun e w' => e = .returned (.bool q) ∧ Below w.heap.size w w') (w : World) :
    Calls Tryz.prog 14 #[.agg #[.string aS, .string aI], .agg #[.string bS, .string bI]] w fun e w' => e = .returned (.bool (p && q)) ∧ Below w.heap.size w w' := by
  cases p with
  | false =>
    go_enter Tryz.func14, Tryz.ntmps14
    have hB0 := Below.refl w.heap.size w
    have M0 := Mem.nil w
    go_wp2_with fail
    refine Calls.named ?_
    intro W1 hW1
    have hB1_ : Below w.heap.size w W1 := by rw [hW1]; exact (below_al (below_al hB0 _) _)
    have M1_ := ((M0).new' (w.heap.size) (by rfl) (.cells #[.string aS, .string aI] 25)).new' (w.heap.size + 1) (by simp) (.cells #[.string bS, .string bI] 25)
    rw [← hW1] at M1_
    clear hW1
    have ZZ1_0 := Lib.hid (Mem.lt M1_.1)
    have ZZ1_1 := Lib.hid (Mem.lt M1_.2.1)
    refine (h1 _).mono ?_
    rintro e w1 ⟨rfl, hb1⟩
    have hB1 := below_then hB1_ hb1
    have M1 := M1_.below hb1
    clear M1_ hB1_ hb1
    have c1_0_0 := Mem.cell (v := .string bS) M1.1 0 rfl
    have c1_0_1 := Mem.cell (v := .string bI) M1.1 1 rfl
    have z1_0 := Mem.lt M1.1
    have c1_1_0 := Mem.cell (v := .string aS) M1.2.1 0 rfl
    have c1_1_1 := Mem.cell (v := .string aI) M1.2.1 1 rfl
    have z1_1 := Mem.lt M1.2.1
    go_wp2_with fail
    go_ret
    exact ⟨rfl, hB1⟩
  | true =>
    go_enter Tryz.func14, Tryz.ntmps14
    have hB0 := Below.refl w.heap.size w
    have M0 := Mem.nil w
    go_wp2_with fail
    refine Calls.named ?_
    intro W1 hW1
    have hB1_ : Below w.heap.size w W1 := by rw [hW1]; exact (below_al (below_al hB0 _) _)
    have M1_ := ((M0).new' (w.heap.size) (by rfl) (.cells #[.string aS, .string aI] 25)).new' (w.heap.size + 1) (by simp) (.cells #[.string bS, .string bI] 25)
    rw [← hW1] at M1_
    clear hW1
    have ZZ1_0 := Lib.hid (Mem.lt M1_.1)
    have ZZ1_1 := Lib.hid (Mem.lt M1_.2.1)
    refine (h1 _).mono ?_
    rintro e w1 ⟨rfl, hb1⟩
    have hB1 := below_then hB1_ hb1
    have M1 := M1_.below hb1
    clear M1_ hB1_ hb1
    have c1_0_0 := Mem.cell (v := .string bS) M1.1 0 rfl
    have c1_0_1 := Mem.cell (v := .string bI) M1.1 1 rfl
    have z1_0 := Mem.lt M1.1
    have c1_1_0 := Mem.cell (v := .string aS) M1.2.1 0 rfl
    have c1_1_1 := Mem.cell (v := .string aI) M1.2.1 1 rfl
    have z1_1 := Mem.lt M1.2.1
    go_wp2_with fail
    refine Calls.named ?_
    intro W2 hW2
    have hB2_ : Below w.heap.size w W2 := by rw [hW2]; exact hB1
    have M2_ := M1
    rw [← hW2] at M2_
    clear hW2
    have ZZ2_0 := Lib.hid (Mem.lt M2_.1)
    have ZZ2_1 := Lib.hid (Mem.lt M2_.2.1)
    clear c1_0_0 c1_0_1 z1_0 c1_1_0 c1_1_1 z1_1
    refine (h2 _).mono ?_
    rintro e w2 ⟨rfl, hb2⟩
    have hB2 := below_then hB2_ hb2
    have M2 := M2_.below hb2
    clear M2_ hB2_ hb2
    have c2_0_0 := Mem.cell (v := .string bS) M2.1 0 rfl
    have c2_0_1 := Mem.cell (v := .string bI) M2.1 1 rfl
    have z2_0 := Mem.lt M2.1
    have c2_1_0 := Mem.cell (v := .string aS) M2.2.1 0 rfl
    have c2_1_1 := Mem.cell (v := .string aI) M2.2.1 1 rfl
    have z2_1 := Mem.lt M2.2.1
    go_wp2 
    go_ret
    exact ⟨by simp, hB2⟩
/-- may become -/
def flowsB (aS aI bS bI : ByteArray) : Bool := impF bS.data.toList aS.data.toList && impF aI.data.toList bI.data.toList
theorem flows_any (aS aI bS bI : ByteArray) (h1 : Bd aS) (h2 : Bd aI) (h3 : Bd bS) (h4 : Bd bI) (w : World) :
    Calls Tryz.prog 14 #[.agg #[.string aS, .string aI], .agg #[.string bS, .string bI]] w fun e w' => e = .returned (.bool (flowsB aS aI bS bI)) ∧ Below w.heap.size w w' :=
  flows_gen aS aI bS bI _ _ (implies_any bS aS h3 h1) (implies_any aI bI h2 h4) w
set_option maxRecDepth 100000 in
set_option maxHeartbeats 1000000 in
theorem high_any (w : World) :
    Calls Tryz.prog 22 #[] w fun e w' => e = .returned (.agg #[.string ⟨#[0]⟩, .string ⟨#[]⟩]) ∧ Below w.heap.size w w' := by
  go_enter Tryz.func22, Tryz.ntmps22
  have hB0 := Below.refl w.heap.size w
  have M0 := Mem.nil w
  go_upto_region 1 with (fail)
  refine wp_named ?_
  intro w1 hW1
  have hB1 : Below w.heap.size w w1 := by rw [hW1]; exact (below_al hB0 _)
  have M1 := (M0).new' (w.heap.size) (by rfl) (.cells #[.string ⟨#[]⟩, .string ⟨#[]⟩] 25)
  rw [← hW1] at M1
  clear hW1
  have c1_0_0 := Mem.cell (v := .string ⟨#[]⟩) M1.1 0 rfl
  have c1_0_1 := Mem.cell (v := .string ⟨#[]⟩) M1.1 1 rfl
  have z1_0 := Mem.lt M1.1
  have f0 := fun j => Mem.free M1.1 j
  go_wp2 
  go_wp2_with fail
  have hX1 := set_block (M1).1 [.string ⟨#[0]⟩, .string ⟨#[]⟩] rfl
  have hY1 := below_setCells (B := w.heap.size) hB1 (b := w.heap.size) (by have := hB1.size; omega) 0 [.string ⟨#[0]⟩, .string ⟨#[]⟩]
  obtain ⟨W_e, hW_e⟩ : ∃ W_e, W_e = w1.setCells (w.heap.size) 0 [.string ⟨#[0]⟩, .string ⟨#[]⟩] := ⟨_, rfl⟩
  rw [← hW_e] at hX1 hY1
  refine at_world hW_e ?_
  have k_0 := Mem.cell (v := .string ⟨#[0]⟩) hX1 0 rfl
  have k_1 := Mem.cell (v := .string ⟨#[]⟩) hX1 1 rfl
  refine bodyPost_ret (v := .agg #[.string ⟨#[0]⟩, .string ⟨#[]⟩]) (by simp [results, Tryz.results22, go_sem, k_0, k_1]) rfl ⟨rfl, hY1⟩
set_option maxRecDepth 100000 in
set_option maxHeartbeats 1000000 in
theorem Meet1_gen (h : Bool) (a b : Nat) (aS aI bS bI R1 R2 : ByteArray) (w : World) (hm : Mem w [(a, .cells #[.string aS, .string aI] 25), (b, .cells #[.string bS, .string bI] 25)])
    (h1 : ∀ w, Calls Tryz.prog 44 #[.string aS, .string bS] w fun e w' => e = .returned (.string R1) ∧ Below w.heap.size w w')
    (h2 : ∀ w, Calls Tryz.prog 45 #[.string aI, .string bI] w fun e w' => e = .returned (.string R2) ∧ Below w.heap.size w w') :
    Calls Tryz.prog 43 #[.bool h, .pointer (some ⟨a, 0, none⟩), .pointer (some ⟨b, 0, none⟩)] w fun e w' => e = .returned (.string (if h then R1 else R2)) ∧ Below w.heap.size w w' := by
  have c0 := Mem.cell (v := .string aS) hm.1 0 rfl
  have c1 := Mem.cell (v := .string aI) hm.1 1 rfl
  have d0 := Mem.cell (v := .string bS) hm.2.1 0 rfl
  have d1 := Mem.cell (v := .string bI) hm.2.1 1 rfl
  clear hm
  cases h with
  | false =>
    go_enter Tryz.func43, Tryz.ntmps43
    have hB0 := Below.refl w.heap.size w
    have M0 := Mem.nil w
    go_wp2_with fail
    refine Calls.named ?_
    intro W1 hW1
    have hB1_ : Below w.heap.size w W1 := by rw [hW1]; exact hB0
    have M1_ := Mem.nil W1
    clear hW1
    refine (h2 _).mono ?_
    rintro e w1 ⟨rfl, hb1⟩
    have hB1 := below_then hB1_ hb1
    have M1 := M1_.below hb1
    clear M1_ hB1_ hb1
    clear c0 c1 d0 d1
    go_wp2_with fail
    go_ret
    exact ⟨rfl, hB1⟩
  | true =>
    go_enter Tryz.func43, Tryz.ntmps43
    have hB0 := Below.refl w.heap.size w
    have M0 := Mem.nil w
    go_wp2_with fail
    refine Calls.named ?_
    intro W1 hW1
    have hB1_ : Below w.heap.size w W1 := by rw [hW1]; exact hB0
    have M1_ := Mem.nil W1
    clear hW1
    refine (h1 _).mono ?_
    rintro e w1 ⟨rfl, hb1⟩
    have hB1 := below_then hB1_ hb1
    have M1 := M1_.below hb1
    clear M1_ hB1_ hb1
    clear c0 c1 d0 d1
    go_wp2_with fail
    go_ret
    exact ⟨rfl, hB1⟩
set_option maxRecDepth 100000 in
set_option maxHeartbeats 1000000 in
theorem madeMeet_gen (a b : Nat) (aS aI bS bI R1 R2 : ByteArray) (w : World) (hm : Mem w [(a, .cells #[.string aS, .string aI] 25), (b, .cells #[.string bS, .string bI] 25)])
    (h1 : ∀ w, Calls Tryz.prog 44 #[.string aS, .string bS] w fun e w' => e = .returned (.string R1) ∧ Below w.heap.size w w')
    (h2 : ∀ w, Calls Tryz.prog 45 #[.string aI, .string bI] w fun e w' => e = .returned (.string R2) ∧ Below w.heap.size w w') :
    Calls Tryz.prog 42 #[.func (.func 43) #[] #[.pointer (some ⟨a, 0, none⟩), .pointer (some ⟨b, 0, none⟩)]] w fun e w' => e = .returned (.agg #[.string R1, .string R2]) ∧ Below w.heap.size w w' := by
  go_enter Tryz.func42, Tryz.ntmps42
  have hB0 := Below.refl w.heap.size w
  have M0 := Mem.nil w
  have hin := hm
  clear hm
  go_wp2_with fail
  refine Calls.named ?_
  intro W1 hW1
  have hB1_ : Below w.heap.size w W1 := by rw [hW1]; exact (below_al hB0 _)
  have M1_ := (M0).new' (w.heap.size) (by rfl) (.cells #[.string ⟨#[]⟩, .string ⟨#[]⟩] 25)
  rw [← hW1] at M1_
  have hS1 : Below w.heap.size w W1 := by rw [hW1]; exact (below_al (Below.refl _ _) _)
  have hin_ := Mem.below hin hS1
  clear hS1 hin
  clear hW1
  have ZZ1_0 := Lib.hid (Mem.lt M1_.1)
  refine (Meet1_gen true a b aS aI bS bI R1 R2 _ hin_ h1 h2).mono ?_
  rintro e w1 ⟨rfl, hb1⟩
  have hin := Mem.below hin_ hb1
  clear hin_
  have hB1 := below_then hB1_ hb1
  have M1 := M1_.below hb1
  clear M1_ hB1_ hb1
  have c1_0_0 := Mem.cell (v := .string ⟨#[]⟩) M1.1 0 rfl
  have c1_0_1 := Mem.cell (v := .string ⟨#[]⟩) M1.1 1 rfl
  have z1_0 := Mem.lt M1.1
  go_wp2_with fail
  refine Calls.named ?_
  intro W2 hW2
  have hB2_ : Below w.heap.size w W2 := by rw [hW2]; exact hB1
  have M2_ := M1
  rw [← hW2] at M2_
  have hS2 : Below w1.heap.size w1 W2 := by rw [hW2]; exact (Below.refl _ _)
  have hin_ := Mem.below hin hS2
  clear hS2 hin
  clear hW2
  have ZZ2_0 := Lib.hid (Mem.lt M2_.1)
  clear c1_0_0 c1_0_1 z1_0
  refine (Meet1_gen false a b aS aI bS bI R1 R2 _ hin_ h1 h2).mono ?_
  rintro e w2 ⟨rfl, hb2⟩
  have hin := Mem.below hin_ hb2
  clear hin_
  have hB2 := below_then hB2_ hb2
  have M2 := M2_.below hb2
  clear M2_ hB2_ hb2
  have c2_0_0 := Mem.cell (v := .string ⟨#[]⟩) M2.1 0 rfl
  have c2_0_1 := Mem.cell (v := .string ⟨#[]⟩) M2.1 1 rfl
  have z2_0 := Mem.lt M2.1
  have f0 := fun j => Mem.free M2.1 j
  go_wp2_with fail
  have hX2 := set_block (M2).1 [.string R1, .string R2] rfl
  have hY2 := below_setCells (B := w.heap.size) hB2 (b := w.heap.size) (by have := hB2.size; omega) 0 [.string R1, .string R2]
  obtain ⟨W_e, hW_e⟩ : ∃ W_e, W_e = w2.setCells (w.heap.size) 0 [.string R1, .string R2] := ⟨_, rfl⟩
  rw [← hW_e] at hX2 hY2
  refine at_world hW_e ?_
  have k_0 := Mem.cell (v := .string R1) hX2 0 rfl
  have k_1 := Mem.cell (v := .string R2) hX2 1 rfl
  refine bodyPost_ret (v := .agg #[.string R1, .string R2]) (by simp [results, Tryz.results42, go_sem, k_0, k_1]) rfl ⟨rfl, hY2⟩
set_option maxRecDepth 100000 in
set_option maxHeartbeats 1000000 in
theorem Meet_gen (aS aI bS bI R1 R2 : ByteArray) (w : World)
    (h1 : ∀ w, Calls Tryz.prog 44 #[.string aS, .string bS] w fun e w' => e = .returned (.string R1) ∧ Below w.heap.size w w')
    (h2 : ∀ w, Calls Tryz.prog 45 #[.string aI, .string bI] w fun e w' => e = .returned (.string R2) ∧ Below w.heap.size w w') :
    Calls Tryz.prog 21 #[.agg #[.string aS, .string aI], .agg #[.string bS, .string bI]] w fun e w' => e = .returned (.agg #[.string R1, .string R2]) ∧ Below w.heap.size w w' := by
  go_enter Tryz.func21, Tryz.ntmps21
  have hB0 := Below.refl w.heap.size w
  have M0 := Mem.nil w
  go_wp2_with fail
  refine Calls.named ?_
  intro W1 hW1
  have hB1_ : Below w.heap.size w W1 := by rw [hW1]; exact (below_al (below_al (below_al hB0 _) _) _)
  have M1_ := (((M0).new' (w.heap.size) (by rfl) (.cells #[.string aS, .string aI] 25)).new' (w.heap.size + 1) (by simp) (.cells #[.string bS, .string bI] 25)).new' (w.heap.size + 1 + 1) (by simp) (.cells #[.string ⟨#[]⟩, .string ⟨#[]⟩] 25)
  rw [← hW1] at M1_
  clear hW1
  have ZZ1_0 := Lib.hid (Mem.lt M1_.1)
  have ZZ1_1 := Lib.hid (Mem.lt M1_.2.1)
  have ZZ1_2 := Lib.hid (Mem.lt M1_.2.2.1)
  refine (madeMeet_gen w.heap.size (w.heap.size + 1) aS aI bS bI R1 R2 _ ⟨M1_.2.2.1, M1_.2.1, trivial⟩ h1 h2).mono ?_
  rintro e w1 ⟨rfl, hb1⟩
  have hB1 := below_then hB1_ hb1
  have M1 := M1_.below hb1
  clear M1_ hB1_ hb1
  have c1_0_0 := Mem.cell (v := .string ⟨#[]⟩) M1.1 0 rfl
  have c1_0_1 := Mem.cell (v := .string ⟨#[]⟩) M1.1 1 rfl
  have z1_0 := Mem.lt M1.1
  have c1_1_0 := Mem.cell (v := .string bS) M1.2.1 0 rfl
  have c1_1_1 := Mem.cell (v := .string bI) M1.2.1 1 rfl
  have z1_1 := Mem.lt M1.2.1
  have c1_2_0 := Mem.cell (v := .string aS) M1.2.2.1 0 rfl
  have c1_2_1 := Mem.cell (v := .string aI) M1.2.2.1 1 rfl
  have z1_2 := Mem.lt M1.2.2.1
  have f0 := fun j => Mem.free M1.1 j
  go_wp2_with fail
  have hX1 := set_block (M1).1 [.string R1, .string R2] rfl
  have hY1 := below_setCells (B := w.heap.size) hB1 (b := w.heap.size + 1 + 1) (by have := hB1.size; omega) 0 [.string R1, .string R2]
  obtain ⟨W_e, hW_e⟩ : ∃ W_e, W_e = w1.setCells (w.heap.size + 1 + 1) 0 [.string R1, .string R2] := ⟨_, rfl⟩
  rw [← hW_e] at hX1 hY1
  refine at_world hW_e ?_
  have k_0 := Mem.cell (v := .string R1) hX1 0 rfl
  have k_1 := Mem.cell (v := .string R2) hX1 1 rfl
  refine bodyPost_ret (v := .agg #[.string R1, .string R2]) (by simp [results, Tryz.results21, go_sem, k_0, k_1]) rfl ⟨rfl, hY1⟩
theorem meet_any (aS aI bS bI : ByteArray) (h1 : Bd aS) (h2 : Bd aI) (h3 : Bd bS) (h4 : Bd bI) (w : World) :
    Calls Tryz.prog 21 #[.agg #[.string aS, .string aI], .agg #[.string bS, .string bI]] w fun e w' => e = .returned (.agg #[.string (NOr aS bS), .string (NAnd aI bI)]) ∧ Below w.heap.size w w' :=
  Meet_gen aS aI bS bI _ _ w (or_any aS bS h1 h3) (nand_any aI bI h2 h4)
end Go.Proofs.YtlkgcidhhngfeaaGreatDoor
