/- What the package num computes, as plain functions on integers and lists of bytes; no program is in sight. -/
import Derived.WalkKit
namespace Go.Proofs.YtmaambggjdjodaaDoor
open Go.RowKit
def doV (op a b : Int) : Int :=
  if op = 7 then wrap64 (a + b) else if op = 8 then wrap64 (a - b) else if op = 9 then wrap64 (a * b)
  else if op = 10 then (if b = 0 then 0 else wrap64 (a.tdiv b)) else if op = 11 then (if b = 0 then 0 else a.tmod b)
  else if op = 12 then (if a = b then 1 else 0) else if op = 13 then (if a < b then 1 else 0) else 0
def doOk (op b : Int) : Bool :=
  if op = 7 ∨ op = 8 ∨ op = 9 ∨ op = 12 ∨ op = 13 then true else if op = 10 ∨ op = 11 then (if b = 0 then false else true) else false
def pairOf (op a b : Int) : Ending := .returned (.tuple #[.int .i64 (doV op a b), .bool (doOk op b)])
theorem doV_div_t (a : Int) : Ending.returned (.tuple #[.int .i64 (doV 10 a 0), .bool (doOk 10 0)]) = .returned (.tuple #[.int .i64 0, .bool false]) := rfl
theorem doV_div_f (a b : Int) (h : ¬ b = 0) : Ending.returned (.tuple #[.int .i64 (doV 10 a b), .bool (doOk 10 b)]) = .returned (.tuple #[.int .i64 (wrap64 (a.tdiv b)), .bool true]) := by simp [doV, doOk, h]
theorem doV_rem_t (a : Int) : Ending.returned (.tuple #[.int .i64 (doV 11 a 0), .bool (doOk 11 0)]) = .returned (.tuple #[.int .i64 0, .bool false]) := rfl
theorem doV_rem_f (a b : Int) (h : ¬ b = 0) : Ending.returned (.tuple #[.int .i64 (doV 11 a b), .bool (doOk 11 b)]) = .returned (.tuple #[.int .i64 (a.tmod b), .bool true]) := by simp [doV, doOk, h]
theorem doV_eq_t (a : Int) : Ending.returned (.tuple #[.int .i64 (doV 12 a a), .bool (doOk 12 a)]) = .returned (.tuple #[.int .i64 1, .bool true]) := by simp [doV, doOk]
theorem doV_eq_f (a b : Int) (h : ¬ a = b) : Ending.returned (.tuple #[.int .i64 (doV 12 a b), .bool (doOk 12 b)]) = .returned (.tuple #[.int .i64 0, .bool true]) := by simp [doV, doOk, h]
theorem doV_lt_t (a b : Int) (h : a < b) : Ending.returned (.tuple #[.int .i64 (doV 13 a b), .bool (doOk 13 b)]) = .returned (.tuple #[.int .i64 1, .bool true]) := by simp [doV, doOk, h]
theorem doV_lt_f (a b : Int) (h : ¬ a < b) : Ending.returned (.tuple #[.int .i64 (doV 13 a b), .bool (doOk 13 b)]) = .returned (.tuple #[.int .i64 0, .bool true]) := by simp [doV, doOk]; omega
theorem doV_other (op a b : Int) (h : op < 7 ∨ 13 < op) : doV op a b = 0 ∧ doOk op b = false := by
  have h7 : op ≠ 7 := by omega
  have h8 : op ≠ 8 := by omega
  have h9 : op ≠ 9 := by omega
  have h10 : op ≠ 10 := by omega
  have h11 : op ≠ 11 := by omega
  have h12 : op ≠ 12 := by omega
  have h13 : op ≠ 13 := by omega
  simp [doV, doOk, h7, h8, h9, h10, h11, h12, h13]
end Go.Proofs.YtmaambggjdjodaaDoor
