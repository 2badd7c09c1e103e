/- cnf.Right, cnf.Put, cnf.Get. -/
import Derived.Test.YtiggallcoocdaaaGreatDoorNorm
namespace Go.Proofs.YtiggallcoocdaaaGreatDoor
open Go.RowKit
def NoLaid (_ : World) : Prop := True
theorem right_beq (l : List UInt8) (s : ByteArray) (h : l = s.data.toList) : (normL l == s.toList) = rightFm l := by
  unfold rightFm
  rw [ByteArray.toList_eq, ← h]
set_option maxRecDepth 100000 in
set_option maxHeartbeats 1000000 in
theorem cright_any (s : ByteArray) (hs : s.size ≤ 140737488351232) (w : World) :
    Calls Tryz.prog 96 #[.string s] w fun e w' => e = .returned (.bool (rightFm s.data.toList)) ∧ Below w.heap.size w w' := by
  obtain ⟨L, hL⟩ : ∃ L, L = s.data.toList := ⟨_, rfl⟩
  have hb := right_beq L s hL
  have hn := norm_any s hs
  rw [← hL] at hn ⊢
  clear hL
  obtain ⟨B, hB⟩ : ∃ B, B = rightFm L := ⟨_, rfl⟩
  rw [← hB] at hb ⊢
  clear hB
  obtain ⟨N, hN⟩ : ∃ N, N = normL L := ⟨_, rfl⟩
  rw [← hN] at hb hn
  clear hN
  go_enter Tryz.func96, Tryz.ntmps96
  have hB0 := Below.refl w.heap.size w
  have M0 := Mem.nil w
  go_wp2_with fail
  refine Calls.named ?_
  intro W1 hW1
  have hB1_ : Below w.heap.size w W1 := by rw [hW1]; exact hB0
  have M1_ := Mem.nil W1
  clear hW1
  refine (hn _).mono ?_
  rintro e w1 ⟨rfl, hb1⟩
  have hB1 := below_then hB1_ hb1
  have M1 := M1_.below hb1
  clear M1_ hB1_ hb1
  go_wp2_with fail
  go_ret
  exact ⟨rfl, hB1⟩
end Go.Proofs.YtiggallcoocdaaaGreatDoor
