/- mvar.first at its three predicates; waiting ones and values as plain data. Printed by gen_mvfirst.py. -/
import Derived.Test.YtlkgcidhhngfeaaGreatDoorZ1
namespace Go.Proofs.YtlkgcidhhngfeaaGreatDoor
open Go.RowKit
/-- a value: kind, number, name, the label's halves -/
structure V5 where
  k : Int
  n : Int
  nm : ByteArray
  s : ByteArray
  i : ByteArray
deriving DecidableEq
/-- one that waits -/
structure Wt where
  id : ByteArray
  put : Bool
  v : V5
deriving DecidableEq
def V5.cells (v : V5) : List Value := [.int .i64 v.k, .int .i64 v.n, .string v.nm, .string v.s, .string v.i]
def Wt.row (x : Wt) : List Value := [.string x.id, .bool x.put, .int .i64 x.v.k, .int .i64 x.v.n, .string x.v.nm, .string x.v.s, .string x.v.i]
def rowsQ (l : List Wt) : List (List Value) := l.map Wt.row
theorem rowsQ_len (l : List Wt) : (rowsQ l).length = l.length := List.length_map _
theorem rowsQ_wide (l : List Wt) : Wide 7 (rowsQ l) := by
  intro r hr
  obtain ⟨x, _, rfl⟩ := List.mem_map.1 hr
  refine ⟨rfl, fun y hy => ?_⟩
  simp only [Wt.row, List.mem_cons, List.not_mem_nil, or_false] at hy
  rcases hy with rfl | rfl | rfl | rfl | rfl | rfl | rfl <;> rfl
theorem rowsQ_get (l : List Wt) (k : Nat) (h : k < l.length) : (rowsQ l)[k]? = some (l[k].row) := by
  unfold rowsQ
  rw [List.getElem?_map, List.getElem?_eq_getElem h]
  rfl
/-- v is a slice of these -/
def QAt (w : World) (v : Value) (l : List Wt) : Prop := SlotsAt w 7 v (rowsQ l)
theorem QAt.below {w w' : World} {v : Value} {l : List Wt} (h : QAt w v l) (hb : Below w.heap.size w w') : QAt w' v l := SlotsAt.below h hb
theorem QAt.slice {w : World} {v : Value} {l : List Wt} (h : QAt w v l) : ∃ ao cap, v = .slice ao l.length cap := by
  obtain ⟨ao, cap, hv⟩ := SlotsAt.slice h
  rw [rowsQ_len] at hv
  exact ⟨ao, cap, hv⟩
end Go.Proofs.YtlkgcidhhngfeaaGreatDoor
