/- What is got is right and stands there, what is parsed is right and is shown as it was. The walk: the law answers true; no memory that was there is turned. Conditions: the integers are of their kinds, a string has at most 140737488351232 bytes, the listed package variables hold what the program's text lays. -/
import Derived.Test.YthplcmoojmnofaaDoorOpOnceB
namespace Go.Proofs.YthplcmoojmnofaaDoor
open Go.RowKit
theorem opOnce_walk (s : ByteArray) (at_ : Int) (text : ByteArray) (hs : s.size ≤ 140737488351232) (_ : InI64 at_) (ht : text.size ≤ 140737488351232) (w : World) (hw : LaidOp w) :
    Calls Tryd.prog 4 #[.string s, .int .i64 at_, .string text] w fun e w' => e = .returned (.bool true) ∧ Below w.heap.size w w' := by
  have hP : opParse text.data.toList = none ∨ ∃ d b, opParse text.data.toList = some (d, b) := by
    cases opParse text.data.toList with
    | none => exact Or.inl rfl
    | some v => exact Or.inr ⟨v.1, v.2, rfl⟩
  have hG : opGet s.data.toList at_ = none ∨ ∃ c a next, opGet s.data.toList at_ = some ((c, a), next) := by
    cases opGet s.data.toList at_ with
    | none => exact Or.inl rfl
    | some v => exact Or.inr ⟨v.1.1, v.1.2, v.2, rfl⟩
  rcases hG with hG | ⟨c, a, next, hG⟩
  · rcases hP with hP | ⟨d, b, hP⟩
    · exact once_nn s text hs ht w hw at_ (Lib.hid hG) (Lib.hid hP)
    · obtain ⟨h1, h2⟩ := opText_parse hP
      exact once_np s text hs ht w hw at_ (Lib.hid hG) d b _ (Lib.hid hP) (Lib.hid h1) (Lib.hid rfl) (str_beq h2)
  · obtain ⟨g0, g1, g2, hn, g3, g4⟩ := opPut_get hG
    rw [Array.length_toList] at g2
    obtain ⟨A, rfl⟩ := Int.eq_ofNat_of_zero_le g0
    subst g4
    have e2 := once_eq s A (opPut c a) g3
    have hl2 : A + (opPut c a).length ≤ s.size := by
      have h2 : (A : Int) + (opPut c a).length ≤ s.size := g2
      omega
    rcases hP with hP | ⟨d, b, hP⟩
    · exact once_gn s text hs ht w hw c a A _ (Lib.hid hG) (Lib.hid hn) (Lib.hid rfl) e2 hl2 (Lib.hid hP)
    · obtain ⟨h1, h2⟩ := opText_parse hP
      exact once_gp s text hs ht w hw c a A _ (Lib.hid hG) (Lib.hid hn) (Lib.hid rfl) e2 hl2 d b _ (Lib.hid hP) (Lib.hid h1) (Lib.hid rfl) (str_beq h2)
end Go.Proofs.YthplcmoojmnofaaDoor
