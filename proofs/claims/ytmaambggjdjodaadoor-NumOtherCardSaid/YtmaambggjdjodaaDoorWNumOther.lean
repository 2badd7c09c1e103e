/- What is no operation says no, at all numbers. The walk: the law answers true; no memory that was there is turned. Conditions: the integers are of their kinds, a string has at most 140737488351232 bytes, the listed package variables hold what the program's text lays. -/
import Derived.Test.YtmaambggjdjodaaDoorNumLaws
namespace Go.Proofs.YtmaambggjdjodaaDoor
open Go.RowKit
theorem doV_zero (op a b : Int) (h : doOk op b = false) (h7 : 7 ≤ op) (h13 : op ≤ 13) : b = 0 ∧ doV op a b = 0 := by
  have : op = 7 ∨ op = 8 ∨ op = 9 ∨ op = 10 ∨ op = 11 ∨ op = 12 ∨ op = 13 := by omega
  rcases this with rfl | rfl | rfl | rfl | rfl | rfl | rfl
  all_goals first | (simp [doOk] at h; done) | (simp [doOk] at h; subst h; exact ⟨rfl, rfl⟩)
set_option maxHeartbeats 1000000 in
theorem numOther_walk (op a b : Int) (_ : InI64 op) (_ : InI64 a) (_ : InI64 b) (w : World) (hw : Laid w) :
    Calls Tryd.prog 9 #[.int .i64 op, .int .i64 a, .int .i64 b] w fun e w' => e = .returned (.bool true) ∧ Below w.heap.size w w' := by
  by_cases h : op < 7 ∨ 13 < op
  · obtain ⟨h1, h2⟩ := doV_other op a b h
    rcases h with h | h
    all_goals
      go_enter Tryd.func9, Tryd.ntmps9
      go_wp2_with fail
      refine (examples_any _ hw).mono ?_
      rintro e w1 ⟨rfl, hb1⟩
      have hw1 := hw.below hb1
      go_wp2_with fail
      refine (do_below _ _ _ _).mono ?_
      rintro e w2 ⟨rfl, hb2⟩
      have hw2 := hw1.below hb2
      go_wp2_with fail
      go_ret
      exact ⟨rfl, (below_two hb1 hb2)⟩
  · have h7 : 7 ≤ op := by omega
    have h13 : op ≤ 13 := by omega
    clear h
    by_cases hk : doOk op b = true
    · go_enter Tryd.func9, Tryd.ntmps9
      go_wp2_with fail
      refine (examples_any _ hw).mono ?_
      rintro e w1 ⟨rfl, hb1⟩
      have hw1 := hw.below hb1
      go_wp2_with fail
      refine (do_below _ _ _ _).mono ?_
      rintro e w2 ⟨rfl, hb2⟩
      have hw2 := hw1.below hb2
      go_wp2_with fail
      go_ret
      exact ⟨rfl, (below_two hb1 hb2)⟩
    · have hk' : doOk op b = false := by simpa using hk
      obtain ⟨h1, h2⟩ := doV_zero op a b hk' h7 h13
      subst h1
      clear hk
      go_enter Tryd.func9, Tryd.ntmps9
      go_wp2_with fail
      refine (examples_any _ hw).mono ?_
      rintro e w1 ⟨rfl, hb1⟩
      have hw1 := hw.below hb1
      go_wp2_with fail
      refine (do_below _ _ _ _).mono ?_
      rintro e w2 ⟨rfl, hb2⟩
      have hw2 := hw1.below hb2
      go_wp2_with fail
      go_ret
      exact ⟨rfl, (below_two hb1 hb2)⟩
end Go.Proofs.YtmaambggjdjodaaDoor
