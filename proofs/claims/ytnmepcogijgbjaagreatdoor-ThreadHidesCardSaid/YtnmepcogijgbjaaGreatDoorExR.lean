/- The order of a long region, in parts. -/
import Derived.Test.YtnmepcogijgbjaaGreatDoorLong
import Derived.Test.YtnmepcogijgbjaaGreatDoorProg
namespace Go.Proofs.YtnmepcogijgbjaaGreatDoor
open Go.RowKit
theorem ex_lex_0 : lexPart .any (regOf 18 ((Go.Proofs.Tryz.f6).body.getD .skip)).toArray 12 0 (lst 0 141) = true := by decide +kernel
theorem ex_lex_12 : lexPart .any (regOf 18 ((Go.Proofs.Tryz.f6).body.getD .skip)).toArray 12 12 (lst 12 141) = true := by decide +kernel
theorem ex_lex_24 : lexPart .any (regOf 18 ((Go.Proofs.Tryz.f6).body.getD .skip)).toArray 12 24 (lst 24 141) = true := by decide +kernel
theorem ex_lex_36 : lexPart .any (regOf 18 ((Go.Proofs.Tryz.f6).body.getD .skip)).toArray 12 36 (lst 36 141) = true := by decide +kernel
theorem ex_lex_48 : lexPart .any (regOf 18 ((Go.Proofs.Tryz.f6).body.getD .skip)).toArray 12 48 (lst 48 141) = true := by decide +kernel
theorem ex_lex_60 : lexPart .any (regOf 18 ((Go.Proofs.Tryz.f6).body.getD .skip)).toArray 12 60 (lst 60 141) = true := by decide +kernel
theorem ex_lex_72 : lexPart .any (regOf 18 ((Go.Proofs.Tryz.f6).body.getD .skip)).toArray 12 72 (lst 72 141) = true := by decide +kernel
theorem ex_lex_84 : lexPart .any (regOf 18 ((Go.Proofs.Tryz.f6).body.getD .skip)).toArray 12 84 (lst 84 141) = true := by decide +kernel
theorem ex_lex_96 : lexPart .any (regOf 18 ((Go.Proofs.Tryz.f6).body.getD .skip)).toArray 12 96 (lst 96 141) = true := by decide +kernel
theorem ex_lex_108 : lexPart .any (regOf 18 ((Go.Proofs.Tryz.f6).body.getD .skip)).toArray 12 108 (lst 108 141) = true := by decide +kernel
theorem ex_lex_120 : lexPart .any (regOf 18 ((Go.Proofs.Tryz.f6).body.getD .skip)).toArray 12 120 (lst 120 141) = true := by decide +kernel
theorem ex_lex_132 : lexPart .any (regOf 18 ((Go.Proofs.Tryz.f6).body.getD .skip)).toArray 9 132 (lst 132 141) = true := by decide +kernel
theorem ex_lex_e : Region.lexFrom .any (regOf 18 ((Go.Proofs.Tryz.f6).body.getD .skip)).toArray 0 141 (lst 141 141) = true := by decide +kernel
theorem ex_lex : Region.lexB .any (regOf 18 ((Go.Proofs.Tryz.f6).body.getD .skip)).toArray = true := by
  refine lex_whole 141 (by decide +kernel) (by decide +kernel) ?_
  refine lex_step 12 129 0 141 ex_lex_0 (by decide +kernel) ?_
  refine lex_step 12 117 12 141 ex_lex_12 (by decide +kernel) ?_
  refine lex_step 12 105 24 141 ex_lex_24 (by decide +kernel) ?_
  refine lex_step 12 93 36 141 ex_lex_36 (by decide +kernel) ?_
  refine lex_step 12 81 48 141 ex_lex_48 (by decide +kernel) ?_
  refine lex_step 12 69 60 141 ex_lex_60 (by decide +kernel) ?_
  refine lex_step 12 57 72 141 ex_lex_72 (by decide +kernel) ?_
  refine lex_step 12 45 84 141 ex_lex_84 (by decide +kernel) ?_
  refine lex_step 12 33 96 141 ex_lex_96 (by decide +kernel) ?_
  refine lex_step 12 21 108 141 ex_lex_108 (by decide +kernel) ?_
  refine lex_step 12 9 120 141 ex_lex_120 (by decide +kernel) ?_
  refine lex_step 9 0 132 141 ex_lex_132 (by decide +kernel) ?_
  exact ex_lex_e
end Go.Proofs.YtnmepcogijgbjaaGreatDoor
