/- The forty-seven codes take and lay as the table says, as sums. The walk: the law answers true; no memory that was there is turned. Conditions: the listed package variables hold what the program's text lays. -/
import Derived.Test.YthplcmoojmnofaaDoorOpLaws
namespace Go.Proofs.YthplcmoojmnofaaDoor
open Go.RowKit
def sumTo (f : Int → Int) : Nat → Int
  | 0 => 0
  | k + 1 => sumTo f k + f ((k : Int) + 1)
theorem sumTo_next (f : Int → Int) (k : Nat) : sumTo f (k + 1) = sumTo f k + f ((k : Int) + 1) := rfl
def hasArg (c : Int) : Int := if 0 < aArg c then 1 else 0
def isLast (c : Int) : Int := if aLast c then 1 else 0
theorem sums_low : ∀ k : Fin 48, (0 ≤ sumTo hasArg k.val ∧ sumTo hasArg k.val ≤ 100) ∧ (0 ≤ sumTo isLast k.val ∧ sumTo isLast k.val ≤ 100) ∧ (0 ≤ sumTo aPop k.val ∧ sumTo aPop k.val ≤ 100) ∧ (0 ≤ sumTo aPush k.val ∧ sumTo aPush k.val ≤ 100) := by decide +kernel
theorem sums_end : sumTo hasArg 47 = 11 ∧ sumTo isLast 47 = 3 ∧ sumTo aPop 47 = 59 ∧ sumTo aPush 47 = 33 := by decide +kernel
set_option maxHeartbeats 1000000 in
theorem opCounts_walk (code : Int) (_ : InI64 code) (w : World) (hw : LaidOp w) :
    Calls Tryd.prog 7 #[.int .i64 code] w fun e w' => e = .returned (.bool true) ∧ Below w.heap.size w w' := by
  go_enter Tryd.func7, Tryd.ntmps7
  go_wp2_with fail
  refine (oexamples_any _ hw).mono ?_
  rintro e w1 ⟨rfl, hb1⟩
  have hw1 := hw.below hb1
  go_wp2_with fail
  go_loopw [4, 5, 6, 7, 8] (fun a l p q i wr => ∃ k : Nat, k ≤ 47 ∧ i = .int .i64 ((k : Int) + 1) ∧ a = .int .i64 (sumTo hasArg k) ∧ l = .int .i64 (sumTo isLast k) ∧ p = .int .i64 (sumTo aPop k) ∧ q = .int .i64 (sumTo aPush k) ∧ Below w.heap.size w wr) (fun _ _ _ _ i _ => 48 - (intOf i).toNat)
  case atStart => exact ⟨0, by omega, rfl, rfl, rfl, rfl, rfl, hb1⟩
  case round =>
    obtain ⟨k, hk, rfl, rfl, rfl, rfl, rfl, hb⟩ := hrel
    obtain ⟨⟨a1, a2⟩, ⟨l1, l2⟩, ⟨p1, p2⟩, ⟨q1, q2⟩⟩ := sums_low ⟨k, by omega⟩
    simp only at a1 a2 l1 l2 p1 p2 q1 q2
    by_cases hlt : k < 47
    · have hok : aOk ((k : Int) + 1) = true := by unfold aOk; simp; omega
      obtain ⟨g1, g2, g3, g4, g5, g6, g7⟩ := arg_range _ hok
      have NP := Lib.hid (sumTo_next aPop k)
      have NQ := Lib.hid (sumTo_next aPush k)
      have nA : sumTo hasArg (k + 1) = sumTo hasArg k + (if 0 < aArg ((k : Int) + 1) then 1 else 0) := rfl
      have nL : sumTo isLast (k + 1) = sumTo isLast k + (if aLast ((k : Int) + 1) then 1 else 0) := rfl
      have HA := about_any ((k : Int) + 1) wr (hw.below hb)
      rw [hok, Bool.and_true] at HA
      have NA := Lib.hid nA
      have NL := Lib.hid nL
      clear nA nL g7 hok
      generalize aArg ((k : Int) + 1) = x at *
      generalize aPop ((k : Int) + 1) = y at *
      generalize aPush ((k : Int) + 1) = z at *
      generalize aLast ((k : Int) + 1) = l at *
      generalize aName ((k : Int) + 1) = nm at *
      go_wp2_with fail
      refine HA.mono ?_
      clear HA
      rintro e w2 ⟨rfl, hb2⟩
      by_cases hx : 0 < x
      all_goals cases l
      all_goals
        go_wp2_with fail
        go_roundw
        case rel => exact ⟨k + 1, by omega, by go_num, by rw [NA.out]; congr 1; split <;> omega, by rw [NL.out]; simp, by rw [NP.out], by rw [NQ.out], below_two hb (hb2.alloc hb2.size _)⟩
        case measure => simp [intOf]; omega
    · obtain rfl : k = 47 := by omega
      rw [sums_end.1, sums_end.2.1, sums_end.2.2.1, sums_end.2.2.2]
      go_wp2_with fail
      refine (about_any _ _ (hw.below hb)).mono ?_
      rintro e w2 ⟨rfl, hb2⟩
      have q1 : (aOk code) = (decide (0 < code) && decide (code < 48)) := by
        unfold aOk
        by_cases h1 : 0 < code <;> by_cases h2 : code < 48 <;> simp [h1, h2] <;> omega
      by_cases h1 : 0 < code
      · by_cases h2 : code < 48
        · have q2 : aOk code = true := by rw [q1]; simp [h1, h2]
          clear q1
          rw [q2]
          go_wp2_with fail
          go_ret
          exact ⟨rfl, below_two hb (hb2.alloc hb2.size _)⟩
        · have q2 : aOk code = false := by rw [q1]; simp [h2]
          have h3 : decide (code < 48) = false := by simp; omega
          clear q1
          rw [q2]
          go_wp2_with fail
          go_ret
          exact ⟨rfl, below_two hb (hb2.alloc hb2.size _)⟩
      · have q2 : aOk code = false := by rw [q1]; simp [h1]
        clear q1
        rw [q2]
        go_wp2_with fail
        go_ret
        exact ⟨rfl, below_two hb (hb2.alloc hb2.size _)⟩
end Go.Proofs.YthplcmoojmnofaaDoor
