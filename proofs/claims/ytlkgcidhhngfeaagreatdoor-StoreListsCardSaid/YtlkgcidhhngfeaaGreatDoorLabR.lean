/- label.Norm, Right, Put, Get. -/
import Derived.Test.YtlkgcidhhngfeaaGreatDoorLabN
import Derived.Test.YtlkgcidhhngfeaaGreatDoorZ1
namespace Go.Proofs.YtlkgcidhhngfeaaGreatDoor
open Go.RowKit
def lb (S I : ByteArray) : Lb := ⟨S.data.toList, I.data.toList⟩
set_option maxRecDepth 100000 in
set_option maxHeartbeats 1000000 in
theorem lright_any (S I : ByteArray) (hS : S.size ≤ 140737488351232) (hI : I.size ≤ 140737488351232) (w : World) :
    Calls Tryz.prog 31 #[.agg #[.string S, .string I]] w fun e w' => e = .returned (.bool (lb S I).right) ∧ Below w.heap.size w w' := by
  have hn := lnorm_any S I hS hI
  have e1 := nb_beq S
  have e2 := nb_beq I
  have e3 : (lb S I).right = (rightFm S.data.toList && rightFm I.data.toList) := rfl
  rw [e3]
  clear e3
  obtain ⟨NS, hNS⟩ : ∃ x, x = NB S := ⟨_, rfl⟩
  obtain ⟨NI, hNI⟩ : ∃ x, x = NB I := ⟨_, rfl⟩
  rw [← hNS] at hn e1
  rw [← hNI] at hn e2
  cases hs : rightFm S.data.toList <;> cases hi : rightFm I.data.toList
  all_goals
    rw [hs] at e1
    rw [hi] at e2
    clear hs hi hNS hNI
    go_enter Tryz.func31, Tryz.ntmps31
    have hB0 := Below.refl w.heap.size w
    have M0 := Mem.nil w
    go_upto_region 1 with (fail)
    refine wp_named ?_
    intro w1 hW1
    have hB1 : Below w.heap.size w w1 := by rw [hW1]; exact (below_al hB0 _)
    have M1 := (M0).new' (w.heap.size) (by rfl) (.cells #[.string S, .string I] 25)
    rw [← hW1] at M1
    clear hW1
    have c1_0_0 := Mem.cell (v := .string S) M1.1 0 rfl
    have c1_0_1 := Mem.cell (v := .string I) M1.1 1 rfl
    have z1_0 := Mem.lt M1.1
    have p1_0_0 := fun p : After w1 => Mem.cell (v := .string S) (Mem.after M1 p).1 0 rfl
    have p1_0_1 := fun p : After w1 => Mem.cell (v := .string I) (Mem.after M1 p).1 1 rfl
    refine wp_region_after (by kernel_rfl) (by kernel_rfl) ?_
    repeat (go_big_quiet_step ((go_at_call 25; with_reducible exact After.call (hn _))))
    refine wpQuiet_nil ?_
    rintro _ ⟨p1, rfl⟩
    clear p1_0_0 p1_0_1
    clear c1_0_0 c1_0_1 z1_0
    obtain ⟨w2, hW2⟩ : ∃ x, x = p1.world := ⟨_, rfl⟩
    have hB2 : Below w.heap.size w w2 := by rw [hW2]; exact below_then hB1 p1.h
    have M2 := M1.below p1.h
    rw [← hW2] at M2
    rw [← hW2]
    clear hW2
    clear p1
    have c2_0_0 := Mem.cell (v := .string S) M2.1 0 rfl
    have c2_0_1 := Mem.cell (v := .string I) M2.1 1 rfl
    have z2_0 := Mem.lt M2.1
    go_wp2
    go_ret
    exact ⟨rfl, hB2⟩
end Go.Proofs.YtlkgcidhhngfeaaGreatDoor
