/- The label of a level, the last one too; how many levels flow to a label. -/
import Derived.Test.YtnmepcogijgbjaaGreatDoorThG
namespace Go.Proofs.YtnmepcogijgbjaaGreatDoor
open Go.RowKit
def lvS (l : List Sc) (cS : ByteArray) (i : Nat) : ByteArray := match l[i]? with | some s => s.cS | none => cS
def lvI (l : List Sc) (cI : ByteArray) (i : Nat) : ByteArray := match l[i]? with | some s => s.cI | none => cI
/-- the first level that does not flow to that label; as many as there are, if all do -/
def knownV (l : List Sc) (cS cI mS mI : ByteArray) : Nat := ((List.range (l.length + 1)).find? (fun i => !flowsB (lvS l cS i) (lvI l cI i) mS mI)).getD (l.length + 1)
theorem label_lv (v : Sl) (l : List Sc) (k : Nat) (hk : k ≤ l.length) (cS cI : ByteArray) (w : World) (h : ScAt w v l) :
    Calls Tryz.prog 62 #[.agg #[.slice v.a v.n v.c, .string cS, .string cI], .int .i64 (k : Int)] w fun e w' => e = .returned (.agg #[.string (lvS l cS k), .string (lvI l cI k)]) ∧ Below w.heap.size w w' := by
  by_cases hkl : k < l.length
  · have e1 : lvS l cS k = l[k].cS := by unfold lvS; simp [hkl]
    have e2 : lvI l cI k = l[k].cI := by unfold lvI; simp [hkl]
    rw [e1, e2]
    exact label_at v l k hkl cS cI w h
  · have e : k = l.length := by omega
    have e1 : lvS l cS k = cS := by unfold lvS; simp [e]
    have e2 : lvI l cI k = cI := by unfold lvI; simp [e]
    rw [e1, e2, e, ← h.len]
    exact label_last v cS cI w
end Go.Proofs.YtnmepcogijgbjaaGreatDoor
