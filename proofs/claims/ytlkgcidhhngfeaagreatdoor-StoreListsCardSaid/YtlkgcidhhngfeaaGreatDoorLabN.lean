/- label.Norm, Right, Put, Get. -/
import Derived.Test.YtlkgcidhhngfeaaGreatDoorNorm
import Derived.Test.YtlkgcidhhngfeaaGreatDoorZ1
namespace Go.Proofs.YtlkgcidhhngfeaaGreatDoor
open Go.RowKit
set_option maxRecDepth 100000 in
set_option maxHeartbeats 1000000 in
theorem half_any (h : Bool) (S I : ByteArray) (w : World) :
    Calls Tryz.prog 49 #[.bool h, .agg #[.string S, .string I]] w fun e w' => e = .returned (.string (if h then S else I)) ∧ Below w.heap.size w w' := by
  cases h
  all_goals
    go_enter Tryz.func49, Tryz.ntmps49
    have hB0 := Below.refl w.heap.size w
    have M0 := Mem.nil w
    go_wp2_with fail
    go_ret
    exact ⟨rfl, (below_al hB0 _)⟩
theorem cat_any {P : Program} (t : TypeId) (a b : ByteArray) (h : a.size + b.size ≤ 9223372036854775807) (w : World) : (binOp .add t (.string a) (.string b)).run P w = .ok (.string (a ++ b)) w := by
  simp [binOp, run_string_add_sum w a b h]
def NB (s : ByteArray) : ByteArray := ⟨(normL s.data.toList).toArray⟩
set_option maxRecDepth 100000 in
set_option maxHeartbeats 1000000 in
theorem norm1_any (h : Bool) (b : Nat) (S I : ByteArray) (hS : S.size ≤ 140737488351232) (hI : I.size ≤ 140737488351232) (w : World) (hb : w.heap[b]? = some (.cells #[.string S, .string I] 25)) :
    Calls Tryz.prog 47 #[.bool h, .pointer (some ⟨b, 0, none⟩)] w fun e w' => e = .returned (.string (NB (if h then S else I))) ∧ Below w.heap.size w w' := by
  have c0 := Mem.cell (v := .string S) hb 0 rfl
  have c1 := Mem.cell (v := .string I) hb 1 rfl
  have hn := fun x (hx : x.size ≤ 140737488351232) => norm_any x hx
  have hX : (if h then S else I).size ≤ 140737488351232 := by cases h <;> assumption
  obtain ⟨X, hx⟩ : ∃ X, X = (if h then S else I) := ⟨_, rfl⟩
  have ho := half_any h S I
  rw [← hx] at hX ho ⊢
  clear hx hb
  go_enter Tryz.func47, Tryz.ntmps47
  have hB0 := Below.refl w.heap.size w
  have M0 := Mem.nil w
  go_wp2_with fail
  refine Calls.named ?_
  intro W1 hW1
  have hB1_ : Below w.heap.size w W1 := by rw [hW1]; exact hB0
  have M1_ := Mem.nil W1
  clear hW1
  refine (ho _).mono ?_
  rintro e w1 ⟨rfl, hb1⟩
  have hB1 := below_then hB1_ hb1
  have M1 := M1_.below hb1
  clear M1_ hB1_ hb1
  clear c0 c1
  go_wp2_with fail
  refine Calls.named ?_
  intro W2 hW2
  have hB2_ : Below w.heap.size w W2 := by rw [hW2]; exact hB1
  have M2_ := Mem.nil W2
  clear hW2
  refine (norm_any X hX _).mono ?_
  rintro e w2 ⟨rfl, hb2⟩
  have hB2 := below_then hB2_ hb2
  have M2 := M2_.below hb2
  clear M2_ hB2_ hb2
  go_wp2_with fail
  go_ret
  exact ⟨rfl, hB2⟩
set_option maxRecDepth 100000 in
set_option maxHeartbeats 1000000 in
theorem made_norm (b : Nat) (S I : ByteArray) (hS : S.size ≤ 140737488351232) (hI : I.size ≤ 140737488351232) (w : World) (hb : w.heap[b]? = some (.cells #[.string S, .string I] 25)) :
    Calls Tryz.prog 42 #[.func (.func 47) #[] #[.pointer (some ⟨b, 0, none⟩)]] w fun e w' => e = .returned (.agg #[.string (NB S), .string (NB I)]) ∧ Below w.heap.size w w' := by
  have HH := hb
  go_enter Tryz.func42, Tryz.ntmps42
  have hB0 := Below.refl w.heap.size w
  have M0 := Mem.nil w
  have hin : Mem w [(b, .cells #[.string S, .string I] 25)] := ⟨hb, trivial⟩
  go_wp2_with fail
  refine Calls.named ?_
  intro W1 hW1
  have hB1_ : Below w.heap.size w W1 := by rw [hW1]; exact (below_al hB0 _)
  have M1_ := (M0).new' (w.heap.size) (by rfl) (.cells #[.string ⟨#[]⟩, .string ⟨#[]⟩] 25)
  rw [← hW1] at M1_
  have hS1 : Below w.heap.size w W1 := by rw [hW1]; exact (below_al (Below.refl _ _) _)
  have hin_ := Mem.below hin hS1
  clear hS1 hin
  clear hW1
  have ZZ1_0 := Lib.hid (Mem.lt M1_.1)
  refine (norm1_any true b S I hS hI _ hin_.1).mono ?_
  rintro e w1 ⟨rfl, hb1⟩
  have hin := Mem.below hin_ hb1
  clear hin_
  have hB1 := below_then hB1_ hb1
  have M1 := M1_.below hb1
  clear M1_ hB1_ hb1
  have c1_0_0 := Mem.cell (v := .string ⟨#[]⟩) M1.1 0 rfl
  have c1_0_1 := Mem.cell (v := .string ⟨#[]⟩) M1.1 1 rfl
  have z1_0 := Mem.lt M1.1
  go_wp2_with fail
  refine Calls.named ?_
  intro W2 hW2
  have hB2_ : Below w.heap.size w W2 := by rw [hW2]; exact hB1
  have M2_ := M1
  rw [← hW2] at M2_
  have hS2 : Below w1.heap.size w1 W2 := by rw [hW2]; exact (Below.refl _ _)
  have hin_ := Mem.below hin hS2
  clear hS2 hin
  clear hW2
  have ZZ2_0 := Lib.hid (Mem.lt M2_.1)
  clear c1_0_0 c1_0_1 z1_0
  refine (norm1_any false b S I hS hI _ hin_.1).mono ?_
  rintro e w2 ⟨rfl, hb2⟩
  have hin := Mem.below hin_ hb2
  clear hin_
  have hB2 := below_then hB2_ hb2
  have M2 := M2_.below hb2
  clear M2_ hB2_ hb2
  have c2_0_0 := Mem.cell (v := .string ⟨#[]⟩) M2.1 0 rfl
  have c2_0_1 := Mem.cell (v := .string ⟨#[]⟩) M2.1 1 rfl
  have z2_0 := Mem.lt M2.1
  have f0 := fun j => Mem.free M2.1 j
  go_wp2_with fail
  have hX2 := set_block (M2).1 [.string (NB S), .string (NB I)] rfl
  have hY2 := below_setCells (B := w.heap.size) hB2 (b := w.heap.size) (by have := hB2.size; omega) 0 [.string (NB S), .string (NB I)]
  obtain ⟨W_e, hW_e⟩ : ∃ W_e, W_e = w2.setCells (w.heap.size) 0 [.string (NB S), .string (NB I)] := ⟨_, rfl⟩
  rw [← hW_e] at hX2 hY2
  refine at_world hW_e ?_
  have k_0 := Mem.cell (v := .string (NB S)) hX2 0 rfl
  have k_1 := Mem.cell (v := .string (NB I)) hX2 1 rfl
  refine bodyPost_ret (v := .agg #[.string (NB S), .string (NB I)]) (by simp [results, Tryz.results42, go_sem, k_0, k_1]) rfl ⟨rfl, hY2⟩
set_option maxRecDepth 100000 in
set_option maxHeartbeats 1000000 in
theorem lnorm_any (S I : ByteArray) (hS : S.size ≤ 140737488351232) (hI : I.size ≤ 140737488351232) (w : World) :
    Calls Tryz.prog 25 #[.agg #[.string S, .string I]] w fun e w' => e = .returned (.agg #[.string (NB S), .string (NB I)]) ∧ Below w.heap.size w w' := by
  go_enter Tryz.func25, Tryz.ntmps25
  have hB0 := Below.refl w.heap.size w
  have M0 := Mem.nil w
  go_wp2_with fail
  refine Calls.named ?_
  intro W1 hW1
  have hB1_ : Below w.heap.size w W1 := by rw [hW1]; exact (below_al (below_al hB0 _) _)
  have M1_ := ((M0).new' (w.heap.size) (by rfl) (.cells #[.string S, .string I] 25)).new' (w.heap.size + 1) (by simp) (.cells #[.string ⟨#[]⟩, .string ⟨#[]⟩] 25)
  rw [← hW1] at M1_
  clear hW1
  have ZZ1_0 := Lib.hid (Mem.lt M1_.1)
  have ZZ1_1 := Lib.hid (Mem.lt M1_.2.1)
  refine (made_norm w.heap.size S I hS hI _ M1_.2.1).mono ?_
  rintro e w1 ⟨rfl, hb1⟩
  have hB1 := below_then hB1_ hb1
  have M1 := M1_.below hb1
  clear M1_ hB1_ hb1
  have c1_0_0 := Mem.cell (v := .string ⟨#[]⟩) M1.1 0 rfl
  have c1_0_1 := Mem.cell (v := .string ⟨#[]⟩) M1.1 1 rfl
  have z1_0 := Mem.lt M1.1
  have c1_1_0 := Mem.cell (v := .string S) M1.2.1 0 rfl
  have c1_1_1 := Mem.cell (v := .string I) M1.2.1 1 rfl
  have z1_1 := Mem.lt M1.2.1
  have f0 := fun j => Mem.free M1.1 j
  go_wp2_with fail
  have hX1 := set_block (M1).1 [.string (NB S), .string (NB I)] rfl
  have hY1 := below_setCells (B := w.heap.size) hB1 (b := w.heap.size + 1) (by have := hB1.size; omega) 0 [.string (NB S), .string (NB I)]
  obtain ⟨W_e, hW_e⟩ : ∃ W_e, W_e = w1.setCells (w.heap.size + 1) 0 [.string (NB S), .string (NB I)] := ⟨_, rfl⟩
  rw [← hW_e] at hX1 hY1
  refine at_world hW_e ?_
  have k_0 := Mem.cell (v := .string (NB S)) hX1 0 rfl
  have k_1 := Mem.cell (v := .string (NB I)) hX1 1 rfl
  refine bodyPost_ret (v := .agg #[.string (NB S), .string (NB I)]) (by simp [results, Tryz.results25, go_sem, k_0, k_1]) rfl ⟨rfl, hY1⟩
theorem nb_beq (s : ByteArray) : ((NB s).toList == s.toList) = rightFm s.data.toList := by
  unfold NB rightFm
  rw [ByteArray.toList_eq, ByteArray.toList_eq]
end Go.Proofs.YtlkgcidhhngfeaaGreatDoor
