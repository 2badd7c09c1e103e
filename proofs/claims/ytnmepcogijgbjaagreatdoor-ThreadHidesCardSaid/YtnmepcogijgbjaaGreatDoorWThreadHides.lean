/- What is hidden at a label is hidden again as the same; at a label below it is as if it had been hidden there at once; what is seen whole is as it is. The walk: the law answers true; no memory that was there is turned. Conditions: the thread's lists lie in memory, the listed package variables hold what the program's text lays. -/
import Derived.Test.YtnmepcogijgbjaaGreatDoorEx
import Derived.Test.YtnmepcogijgbjaaGreatDoorHidW
namespace Go.Proofs.YtnmepcogijgbjaaGreatDoor
open Go.RowKit
theorem threadHides_walk (t : Th) (l : List Sc) (lS lI mS mI : ByteArray) (_ : lS.size ≤ 140737488351232 ∧ lI.size ≤ 140737488351232) (_ : mS.size ≤ 140737488351232 ∧ mI.size ≤ 140737488351232) (w : World) (h : Lists w t ∧ ScAt w t.sc l ∧ t.sc.n ≤ maxLen) (hw : Laid w) :
    Calls Tryz.prog 4 #[.agg (th t), .agg #[.string lS, .string lI], .agg #[.string mS, .string mI]] w fun e w' => e = .returned (.bool true) ∧ Below w.heap.size w w' :=
  hides_core t l lS lI mS mI w hw h.1 h.2.1 h.2.2 (fun W h => ex_any W h)
end Go.Proofs.YtnmepcogijgbjaaGreatDoor
