/- Each label flows to the highest one. -/
import Derived.Test.YtnmepcogijgbjaaGreatDoorLat
namespace Go.Proofs.YtnmepcogijgbjaaGreatDoor
open Go.RowKit
theorem norm_false : normL [0] = [0] := by decide +kernel
theorem norm_true : normL ([] : List UInt8) = [] := by decide +kernel
theorem impF_false (b : List UInt8) : impF [0] b = true := by
  unfold impF impN
  rw [norm_false, List.all_eq_true]
  intro i _
  have : holdsL [0] (UInt8.ofNat i) = false := by simp [holdsL]
  rw [this]
  rfl
theorem impF_true (a : List UInt8) : impF a [] = true := by
  unfold impF impN
  rw [norm_true, List.all_eq_true]
  intro i _
  have : holdsL [] (UInt8.ofNat i) = true := by simp [holdsL]
  rw [this, Bool.or_true]
theorem flows_high (S I : ByteArray) : flowsB S I ⟨#[0]⟩ ⟨#[]⟩ = true := by
  unfold flowsB
  rw [show (⟨#[0]⟩ : ByteArray).data.toList = [0] from rfl, show (⟨#[]⟩ : ByteArray).data.toList = [] from rfl, impF_false, impF_true]
  rfl
end Go.Proofs.YtnmepcogijgbjaaGreatDoor
