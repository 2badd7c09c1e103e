/- name.Parts, name.Right, name.Child, name.Under, name.Order, slices.Compare at ints. -/
import Derived.Test.YtnmepcogijgbjaaGreatDoorNameMd
namespace Go.Proofs.YtnmepcogijgbjaaGreatDoor
open Go.RowKit
def PartsEnds (w : World) (F : Option (List Int)) (e : Ending) (w' : World) : Prop :=
  ∃ v, e = .returned v ∧ w'.ownsRow w.heap.size 3 1 v (F.getD []).length (ic (F.getD [])) ∧ Below w.heap.size w w' ∧ (F = none → v = .slice none 0 0)
def childS (s : List UInt8) (n : Int) : Option (List UInt8) := match readL s with
  | none => none
  | some l => ofL (l ++ [n])
def ChildEnds (w : World) (r : Option (List UInt8)) (e : Ending) (w' : World) : Prop := e = .returned (.tuple #[.string ⟨(r.getD []).toArray⟩, .bool r.isSome]) ∧ Below w.heap.size w w'
set_option maxHeartbeats 1000000 in
theorem child_no (s : ByteArray) (n : Int) (w : World) (hs : s.size ≤ 140737488351232) (hw : Laid w) (h : readL s.data.toList = none) :
    Calls Tryz.prog 44 #[.string s, .int .i64 n] w (ChildEnds w (childS s.data.toList n)) := by
  have hf : childS s.data.toList n = none := by unfold childS; rw [h]
  rw [hf]
  have H := Lib.hid h
  clear h hf
  go_enter Tryz.func44, Tryz.ntmps44
  go_wp2_with fail
  refine (read_any s _ hs hw).mono ?_
  rw [H.out]
  rintro e w1 ⟨v, rfl, hrow, hb, hnil⟩
  clear hrow hnil
  go_wp2_with fail
  go_ret2
  exact ⟨rfl, hb⟩
set_option maxHeartbeats 1000000 in
theorem child_yes (s : ByteArray) (n : Int) (w : World) (hs : s.size ≤ 140737488351232) (hw : Laid w) (l : List Int) (h : readL s.data.toList = some l) :
    Calls Tryz.prog 44 #[.string s, .int .i64 n] w (ChildEnds w (childS s.data.toList n)) := by
  have hf : childS s.data.toList n = ofL (l ++ [n]) := by unfold childS; rw [h]
  rw [hf]
  have H := Lib.hid h
  have hlen := (readL_some h).1.2.1
  clear h hf
  obtain ⟨i0, hi, hz0, hz1, hz2⟩ := info_parts intInfo
  go_enter Tryz.func44, Tryz.ntmps44
  go_wp2_with fail
  refine (read_any s _ hs hw).mono ?_
  rw [H.out]
  rintro e w1 ⟨v, rfl, hrow, hb, -⟩
  have hown : w1.ownsRow w.heap.size 3 1 v l.length (ic l) := hrow
  obtain ⟨ao, cap, rfl⟩ := ownsRow_slice hown
  have hz := hb.size
  have HB := Lib.hid hb
  clear hrow hb
  go_wp2_with (at_builtin; refine wpList_append_own _ rfl _ _ 96 rfl w.heap.size 3 i0 (.int .i64 0) 1 8 Tryz.underlying96 hi hz0 hz1 hz2 rfl (by decide) _ _ _ rfl (hown.alloc _) ⟨w1.heap.size, 0, none⟩ 1 1 [.int .i64 n] rfl rfl ?c1 ?c2 ?c3 ?c4 ?c5 ?_)
  case c1 =>
    intro j u hj
    match j, hj with
    | 0, hj => simp at hj; subst hj; simp [Addr.add]
  case c2 => intro u hu; simp at hu; subst hu; rfl
  case c3 => unfold maxLen; omega
  case c4 => omega
  case c5 => simp; omega
  intro v' w3 hown' hgrow _
  have hrow : ∀ k, (Value.slice ao l.length cap).ownBlock = some k → w.heap.size ≤ k := fun k hk => (hown.lt k hk).1
  have hb3 : Below w.heap.size w w3 := (below_al HB.out _).grown hgrow (by simp; omega) hrow
  have hi3 : IntsAt w3 v' (l ++ [n]) := IntsAt.of_row (B := w.heap.size) (by rw [ic_app]; simpa [ic] using hown')
  clear hown hown' hgrow hrow HB
  have HI := Lib.hid hi3
  have HB := Lib.hid hb3
  clear hi3 hb3
  go_wp2_with fail
  refine (made_any _ _ _ HI.out (hw.below HB.out)).mono ?_
  rintro e w4 ⟨rfl, hb4⟩
  have HB4 := Lib.hid (below_then HB.out hb4)
  clear hb4
  go_wp2_with fail
  go_ret2
  exact ⟨rfl, HB4.out⟩
theorem child_any (s : ByteArray) (n : Int) (w : World) (hs : s.size ≤ 140737488351232) (hw : Laid w) :
    Calls Tryz.prog 44 #[.string s, .int .i64 n] w (ChildEnds w (childS s.data.toList n)) := by
  cases h : readL s.data.toList with
  | none => exact child_no s n w hs hw h
  | some l => exact child_yes s n w hs hw l h
end Go.Proofs.YtnmepcogijgbjaaGreatDoor
