/- What is got is put as the bytes that stand there, what is parsed is shown as it was. The walk: the law answers true; no memory that was there is turned. Conditions: the integers are of their kinds, a string has at most 140737488351232 bytes, the listed package variables hold what the program's text lays. -/
import Derived.Test.YtmaambggjdjodaaDoorNumLaws
namespace Go.Proofs.YtmaambggjdjodaaDoor
open Go.RowKit
theorem gnone : gV none = 0 ∧ gN none = 0 ∧ gO none = false := ⟨rfl, rfl, rfl⟩
theorem gsome (a b : Int) : gV (some (a, b)) = a ∧ gN (some (a, b)) = b ∧ gO (some (a, b)) = true := ⟨rfl, rfl, rfl⟩
theorem pnone : pV none = 0 ∧ pO none = false := ⟨rfl, rfl⟩
theorem psome (n : Int) : pV (some n) = n ∧ pO (some n) = true := ⟨rfl, rfl⟩
theorem once_eq (s : ByteArray) (A : Nat) (n : Int) (l : Nat) (h : (s.data.toList.drop A).take l = putL n) : (putL n == (s.extract A (A + l)).toList) = true := by
  rw [beq_iff_eq, Lib.extract_toList, ← h]
  congr 1
  omega
set_option maxHeartbeats 1000000 in
theorem numOnce_walk (s : ByteArray) (at_ : Int) (text : ByteArray) (hs : s.size ≤ 140737488351232) (_ : InI64 at_) (ht : text.size ≤ 140737488351232) (w : World) (hw : Laid w) :
    Calls Tryd.prog 8 #[.string s, .int .i64 at_, .string text] w fun e w' => e = .returned (.bool true) ∧ Below w.heap.size w w' := by
  have hP : parseS text.data.toList = none ∨ ∃ v, parseS text.data.toList = some v := by
    cases parseS text.data.toList with
    | none => exact Or.inl rfl
    | some v => exact Or.inr ⟨v, rfl⟩
  have hG : getR s.data.toList at_ = none ∨ ∃ n next, getR s.data.toList at_ = some (n, next) := by
    cases getR s.data.toList at_ with
    | none => exact Or.inl rfl
    | some v => exact Or.inr ⟨v.1, v.2, rfl⟩
  rcases hG with hG | ⟨n, next, hG⟩
  · have HG := Lib.hid hG
    clear hG
    rcases hP with hP | ⟨v, hP⟩
    · have HP := Lib.hid hP
      clear hP
      go_enter Tryd.func8, Tryd.ntmps8
      go_wp2_with fail
      refine (examples_any _ hw).mono ?_
      rintro e w1 ⟨rfl, hb1⟩
      have hw1 := hw.below hb1
      go_wp2_with fail
      refine (get_t _ _ _ (by omega)).mono ?_
      rw [HG.out, gnone.1, gnone.2.1, gnone.2.2]
      rintro e _ ⟨rfl, rfl⟩
      go_wp2_with fail
      refine (parse_t _ _ ht hw1).mono ?_
      rw [HP.out, pnone.1, pnone.2]
      rintro e w2 ⟨rfl, hb2⟩
      have hw2 := hw1.below hb2
      go_wp2_with fail
      refine wp_region_after (by kernel_rfl) (by kernel_rfl) ?_
      repeat (go_big_quiet_step ((first | (go_at_call 17; exact After.call (put_any _ _ hn)) | (go_at_call 19; exact After.call (text_any _ _ hv (Laid.after hw2 _))))))
      refine wpQuiet_nil ?_
      rintro _ ⟨p, rfl⟩
      have hb3 := p.h
      go_wp2_with fail
      go_ret
      exact ⟨rfl, below_two hb1 (below_two hb2 hb3)⟩
    · have HP := Lib.hid hP
      obtain ⟨hv, hvt⟩ := parseS_some _ _ hP
      have e1 := str_beq hvt
      clear hP hvt
      go_enter Tryd.func8, Tryd.ntmps8
      go_wp2_with fail
      refine (examples_any _ hw).mono ?_
      rintro e w1 ⟨rfl, hb1⟩
      have hw1 := hw.below hb1
      go_wp2_with fail
      refine (get_t _ _ _ (by omega)).mono ?_
      rw [HG.out, gnone.1, gnone.2.1, gnone.2.2]
      rintro e _ ⟨rfl, rfl⟩
      go_wp2_with fail
      refine (parse_t _ _ ht hw1).mono ?_
      rw [HP.out, (psome _).1, (psome _).2]
      rintro e w2 ⟨rfl, hb2⟩
      have hw2 := hw1.below hb2
      go_wp2_with fail
      refine wp_region_after (by kernel_rfl) (by kernel_rfl) ?_
      repeat (go_big_quiet_step ((first | (go_at_call 17; exact After.call (put_any _ _ hn)) | (go_at_call 19; exact After.call (text_any _ _ hv (Laid.after hw2 _))))))
      refine wpQuiet_nil ?_
      rintro _ ⟨p, rfl⟩
      have hb3 := p.h
      go_wp2_with fail
      go_ret
      exact ⟨rfl, below_two hb1 (below_two hb2 hb3)⟩
  · obtain ⟨g0, g1, g2, hn, g3, g4⟩ := putL_getR _ _ _ _ hG
    rw [Array.length_toList] at g2
    obtain ⟨A, rfl⟩ := Int.eq_ofNat_of_zero_le g0
    have g3' : (s.data.toList.drop A).take (putL n).length = putL n := by
      rw [← g3]
      congr 1
      · rw [g3]; omega
    have e2 := once_eq s A n _ g3'
    have hl := putL_pos n
    have hl2 : A + (putL n).length ≤ s.size := by
      have h2 : (A : Int) + (putL n).length ≤ s.size := by rw [← g4]; exact g2
      omega
    have d1 : decide ((A : Int) < 0) = false := by simp
    have d2 : decide ((A : Int) + (putL n).length ≤ A) = false := by simp; omega
    have d3 : decide ((s.size : Int) < (A : Int) + (putL n).length) = false := by simp; omega
    have hsl : ∀ W : World, (Instr.slice 9 (.string s) (some (.int .i64 (A : Int))) (some (.int .i64 ((A : Int) + (putL n).length))) none).run Tryd.prog W = .ok (.string (s.extract A (A + (putL n).length))) W := fun W => by
      have := run_slice_string (P := Tryd.prog) W 9 s .i64 .i64 (A : Int) ((A : Int) + (putL n).length) Tryd.underlying9 (by omega) (by omega) (by omega)
      rw [this]
      congr 3
    subst g4
    have HG := Lib.hid hG
    clear hG g3 g3' g0 g1 g2
    rcases hP with hP | ⟨v, hP⟩
    · have HP := Lib.hid hP
      clear hP
      go_enter Tryd.func8, Tryd.ntmps8
      go_wp2_with fail
      refine (examples_any _ hw).mono ?_
      rintro e w1 ⟨rfl, hb1⟩
      have hw1 := hw.below hb1
      go_wp2_with fail
      refine (get_t _ _ _ (by omega)).mono ?_
      rw [HG.out, (gsome _ _).1, (gsome _ _).2.1, (gsome _ _).2.2]
      rintro e _ ⟨rfl, rfl⟩
      go_wp2_with fail
      refine (parse_t _ _ ht hw1).mono ?_
      rw [HP.out, pnone.1, pnone.2]
      rintro e w2 ⟨rfl, hb2⟩
      have hw2 := hw1.below hb2
      go_wp2_with fail
      refine wp_region_after (by kernel_rfl) (by kernel_rfl) ?_
      repeat (go_big_quiet_step ((first | (go_at_call 17; exact After.call (put_any _ _ hn)) | (go_at_call 19; exact After.call (text_any _ _ hv (Laid.after hw2 _))))))
      refine wpQuiet_nil ?_
      rintro _ ⟨p, rfl⟩
      have hb3 := p.h
      go_wp2_with fail
      go_ret
      exact ⟨rfl, below_two hb1 (below_two hb2 hb3)⟩
    · have HP := Lib.hid hP
      obtain ⟨hv, hvt⟩ := parseS_some _ _ hP
      have e1 := str_beq hvt
      clear hP hvt
      go_enter Tryd.func8, Tryd.ntmps8
      go_wp2_with fail
      refine (examples_any _ hw).mono ?_
      rintro e w1 ⟨rfl, hb1⟩
      have hw1 := hw.below hb1
      go_wp2_with fail
      refine (get_t _ _ _ (by omega)).mono ?_
      rw [HG.out, (gsome _ _).1, (gsome _ _).2.1, (gsome _ _).2.2]
      rintro e _ ⟨rfl, rfl⟩
      go_wp2_with fail
      refine (parse_t _ _ ht hw1).mono ?_
      rw [HP.out, (psome _).1, (psome _).2]
      rintro e w2 ⟨rfl, hb2⟩
      have hw2 := hw1.below hb2
      go_wp2_with fail
      refine wp_region_after (by kernel_rfl) (by kernel_rfl) ?_
      repeat (go_big_quiet_step ((first | (go_at_call 17; exact After.call (put_any _ _ hn)) | (go_at_call 19; exact After.call (text_any _ _ hv (Laid.after hw2 _))))))
      refine wpQuiet_nil ?_
      rintro _ ⟨p, rfl⟩
      have hb3 := p.h
      go_wp2_with fail
      go_ret
      exact ⟨rfl, below_two hb1 (below_two hb2 hb3)⟩
end Go.Proofs.YtmaambggjdjodaaDoor
