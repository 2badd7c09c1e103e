/- The first scope is due whose time is over; once a scope that is due is left none ahead of it is; the times of scopes are as they were entered. The walk: the law answers true; no memory that was there is turned. Conditions: the integers are of their kinds, a string has at most 140737488351232 bytes, the listed package variables hold what the program's text lays. -/
import Derived.Test.YtnmepcogijgbjaaGreatDoorEx
import Derived.Test.YtnmepcogijgbjaaGreatDoorDueW
namespace Go.Proofs.YtnmepcogijgbjaaGreatDoor
open Go.RowKit
theorem due_mod (x : Int) (m : Int) (hm : 0 < m) : 0 ≤ (max x 0).tmod m ∧ (max x 0).tmod m < m :=
  ⟨Int.tmod_nonneg _ (by omega), Int.tmod_lt_of_pos _ hm⟩
theorem threadDue_walk (cS cI kS kI : ByteArray) (e0 e1 e2 e3 e4 e5 : Int) (e6 e7 : ByteArray) (e8 e9 : Int) (e10 e11 e12 : ByteArray) (f0 f1 f2 f3 f4 f5 : Int) (f6 f7 : ByteArray) (f8 f9 : Int) (f10 f11 f12 : ByteArray) (now : Int)
    (hb : cS.size ≤ 140737488351232 ∧ cI.size ≤ 140737488351232 ∧ kS.size ≤ 140737488351232 ∧ kI.size ≤ 140737488351232) (_ : InI64 e2 ∧ InI64 e4) (_ : InI64 f2 ∧ InI64 f4) (_ : InI64 now) (w : World) (hw : Laid w) :
    Calls Tryz.prog 3 #[.agg #[.string cS, .string cI, .string kS, .string kI], .agg #[.int .i64 e0, .int .i64 e1, .int .i64 e2, .int .i64 e3, .int .i64 e4, .int .u8 e5, .string e6, .string e7, .int .i64 e8, .int .i64 e9, .string e10, .string e11, .string e12], .agg #[.int .i64 f0, .int .i64 f1, .int .i64 f2, .int .i64 f3, .int .i64 f4, .int .u8 f5, .string f6, .string f7, .int .i64 f8, .int .i64 f9, .string f10, .string f11, .string f12], .int .i64 now] w fun e w' => e = .returned (.bool true) ∧ Below w.heap.size w w' := by
  obtain ⟨a1, a2⟩ := due_mod e2 1000 (by omega)
  obtain ⟨b1, b2⟩ := due_mod f2 1000 (by omega)
  obtain ⟨c1, c2⟩ := due_mod e4 1000000 (by omega)
  obtain ⟨d1, d2⟩ := due_mod f4 1000 (by omega)
  exact threaddue_core cS cI kS kI hb.1 hb.2.1 hb.2.2.1 hb.2.2.2 e0 e1 e2 e3 e4 e5 e8 e9 e6 e7 e10 e11 e12 f0 f1 f2 f3 f4 f5 f8 f9 f6 f7 f10 f11 f12 now
    _ _ _ _ _ _ _ _ _ rfl rfl rfl rfl (IntWalk.i64_in _ ⟨by omega, by omega⟩) (IntWalk.i64_in _ ⟨by omega, by omega⟩) (IntWalk.i64_in _ ⟨by omega, by omega⟩) (IntWalk.i64_in _ ⟨by omega, by omega⟩) (IntWalk.i64_in _ ⟨by omega, by omega⟩) ⟨by omega, by omega⟩ ⟨by omega, by omega⟩ w hw (fun W h => ex_any W h)
end Go.Proofs.YtnmepcogijgbjaaGreatDoor
