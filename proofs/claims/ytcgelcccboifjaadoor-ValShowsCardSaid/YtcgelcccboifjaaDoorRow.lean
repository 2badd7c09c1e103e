/- Rows of the call's own, over calls that make memory. -/
import Derived.Test.YtcgelcccboifjaaDoorMem
namespace Go.Proofs.YtcgelcccboifjaaDoor
open Go.RowKit
theorem ownsRow_below {w w' : World} {B : Nat} {e : TypeId} {n : Nat} {v : Value} {xs : List Value} (h : w.ownsRow B e 1 v n xs) (hb : Below w.heap.size w w') : w'.ownsRow B e 1 v n xs :=
  h.kept (row := none) ⟨hb.os, hb.tape, hb.output, hb.size, fun k hk _ => hb.block k hk⟩ (by cases v.ownBlock <;> simp)
end Go.Proofs.YtcgelcccboifjaaDoor
