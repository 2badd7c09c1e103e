/- Names rise, are unlike, below the path, as many as there is room for. The walk: the law answers true; no memory that was there is turned. Conditions: the integers are of their kinds, a string has at most 140737488351232 bytes, the listed package variables hold what the program's text lays. -/
import Derived.Test.YtnmepcogijgbjaaGreatDoorEx
import Derived.Test.YtnmepcogijgbjaaGreatDoorZ7
namespace Go.Proofs.YtnmepcogijgbjaaGreatDoor
open Go.RowKit
theorem threadNames_walk (cS cI kS kI : ByteArray) (r m : Int) (hb : cS.size ≤ 140737488351232 ∧ cI.size ≤ 140737488351232 ∧ kS.size ≤ 140737488351232 ∧ kI.size ≤ 140737488351232) (hr : 0 ≤ r ∧ r ≤ 255) (hm : 0 ≤ m ∧ m ≤ 255) (w : World) (hw : Laid w) :
    Calls Tryz.prog 5 #[.agg #[.string cS, .string cI, .string kS, .string kI], .int .u8 r, .int .u8 m] w fun e w' => e = .returned (.bool true) ∧ Below w.heap.size w w' := by
  exact names_core cS cI kS kI hb.1 hb.2.1 hb.2.2.1 hb.2.2.2 r m (by omega) (by omega) (by omega) (by omega) w hw (fun W h => ex_any W h)
end Go.Proofs.YtnmepcogijgbjaaGreatDoor
