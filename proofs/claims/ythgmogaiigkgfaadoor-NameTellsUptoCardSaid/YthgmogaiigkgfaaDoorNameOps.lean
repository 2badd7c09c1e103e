/- name.Parts, name.Right, name.Child, name.Under, name.Order, slices.Compare at ints. -/
import Derived.Test.YthgmogaiigkgfaaDoorNameMade
namespace Go.Proofs.YthgmogaiigkgfaaDoor
open Go.RowKit
theorem cmpL_drop {x y : List Int} {k : Nat} (hk : k < x.length) (hk2 : k < y.length) : cmpL (x.drop k) (y.drop k) = if x.getD k 0 < y.getD k 0 then -1 else if y.getD k 0 < x.getD k 0 then 1 else cmpL (x.drop (k + 1)) (y.drop (k + 1)) := by
  rw [List.drop_eq_getElem_cons hk, List.drop_eq_getElem_cons hk2, cmpL]
  simp [hk, hk2]
set_option maxHeartbeats 1000000 in
theorem compare_any (b1 o1 c1 b2 o2 c2 : Nat) (x y : List Int) (w : World) (hx : x.length ≤ 9223372036854775807) (hy : y.length ≤ 9223372036854775807)
    (h1 : ∀ j, j < x.length → w.cell? ⟨b1, o1 + j, none⟩ = some (.int .i64 (x.getD j 0))) (h2 : ∀ j, j < y.length → w.cell? ⟨b2, o2 + j, none⟩ = some (.int .i64 (y.getD j 0))) :
    Calls Tryd.prog 28 #[.slice (some ⟨b1, o1, none⟩) x.length c1, .slice (some ⟨b2, o2, none⟩) y.length c2] w fun e w' => e = .returned (.int .i64 (cmpL x y)) ∧ w = w' := by
  obtain ⟨R, hR⟩ : ∃ R, R = cmpL x y := ⟨_, rfl⟩
  rw [← hR]
  have HR : Hid (R = cmpL (x.drop 0) (y.drop 0)) := Lib.hid (by simpa using hR)
  have H1 := Lib.hid h1
  have H2 := Lib.hid h2
  obtain ⟨n, hn⟩ : ∃ n, n = x.length := ⟨_, rfl⟩
  obtain ⟨m, hm⟩ : ∃ m, m = y.length := ⟨_, rfl⟩
  rw [← hn] at hx ⊢
  rw [← hm] at hy ⊢
  have HN := Lib.hid hn
  have HM := Lib.hid hm
  clear hR h1 h2 hn hm
  go_enter Tryd.func28, Tryd.ntmps28
  go_wp2_with fail
  go_loop [5, 6, 7, 8, 11] (fun _ _ _ _ i => ∃ k : Nat, k ≤ n ∧ k ≤ m ∧ i = .int .i64 k ∧ Hid (R = cmpL (x.drop k) (y.drop k))) (fun _ _ _ _ i => n - (intOf i).toNat)
  case atStart => exact ⟨0, by omega, by omega, rfl, HR⟩
  case round =>
    obtain ⟨k, hk, hk2, rfl, hr⟩ := hrel
    by_cases hlt : k < n
    · have hltI : (k : Int) < n := by omega
      have cw := H1.out k (by rw [← HN.out]; exact hlt)
      by_cases hlt2 : k < m
      · have hltI2 : (k : Int) < m := by omega
        have dw := H2.out k (by rw [← HM.out]; exact hlt2)
        have hstep := cmpL_drop (x := x) (y := y) (k := k) (by rw [← HN.out]; exact hlt) (by rw [← HM.out]; exact hlt2)
        obtain ⟨a, ha⟩ : ∃ a, a = x.getD k 0 := ⟨_, rfl⟩
        obtain ⟨b, hb⟩ : ∃ b, b = y.getD k 0 := ⟨_, rfl⟩
        rw [← ha] at cw hstep
        rw [← hb] at dw hstep
        rw [← hr.out] at hstep
        have HS := Lib.hid hstep
        clear ha hb hstep hr HR H1 H2
        have hcase : Lib.compareInt a b = (if a < b then -1 else if b < a then 1 else 0) := rfl
        by_cases e1 : a < b
        · rw [if_pos e1] at hcase
          have HC := Lib.hid hcase
          have HE : Hid (Ending.returned (.int .i64 (-1)) = .returned (.int .i64 R)) := Lib.hid (by rw [HS.out, if_pos e1])
          clear hcase HS
          go_wp2_with fail
          refine (Go.Proofs.Tryd.cmp_Compare_int _ _ _).mono ?_
          rw [HC.out]
          rintro e _ ⟨rfl, rfl⟩
          go_wp2_with fail
          go_ret
          exact ⟨HE.out, rfl⟩
        · rw [if_neg e1] at hcase
          by_cases e2 : b < a
          · rw [if_pos e2] at hcase
            have HC := Lib.hid hcase
            have HE : Hid (Ending.returned (.int .i64 1) = .returned (.int .i64 R)) := Lib.hid (by rw [HS.out, if_neg e1, if_pos e2])
            clear hcase HS
            go_wp2_with fail
            refine (Go.Proofs.Tryd.cmp_Compare_int _ _ _).mono ?_
            rw [HC.out]
            rintro e _ ⟨rfl, rfl⟩
            go_wp2_with fail
            go_ret
            exact ⟨HE.out, rfl⟩
          · rw [if_neg e2] at hcase
            have HC := Lib.hid hcase
            have HE : Hid (R = cmpL (x.drop (k + 1)) (y.drop (k + 1))) := Lib.hid (by rw [HS.out, if_neg e1, if_neg e2])
            clear hcase HS
            go_wp2_with fail
            refine (Go.Proofs.Tryd.cmp_Compare_int _ _ _).mono ?_
            rw [HC.out]
            rintro e _ ⟨rfl, rfl⟩
            go_wp2_with fail
            go_round
            case rel => exact ⟨k + 1, by omega, by omega, by go_num, HE⟩
            case measure => simp [intOf]; omega
      · obtain rfl : k = m := by omega
        have HE : Hid (Ending.returned (.int .i64 1) = .returned (.int .i64 R)) := Lib.hid (by
          rw [hr.out, List.drop_of_length_le (l := y) (by rw [← HM.out]; exact Nat.le_refl _), List.drop_eq_getElem_cons (l := x) (by rw [← HN.out]; exact hlt)]
          rfl)
        clear hr HR H1 H2
        go_wp2_with fail
        go_ret
        exact ⟨HE.out, rfl⟩
    · obtain rfl : k = n := by omega
      by_cases hlt2 : k < m
      · have hltI2 : (k : Int) < m := by omega
        have HE : Hid (Ending.returned (.int .i64 (-1)) = .returned (.int .i64 R)) := Lib.hid (by
          rw [hr.out, List.drop_of_length_le (l := x) (by rw [← HN.out]; exact Nat.le_refl _), List.drop_eq_getElem_cons (l := y) (by rw [← HM.out]; exact hlt2)]
          rfl)
        clear hr HR H1 H2
        go_wp2_with fail
        go_ret
        exact ⟨HE.out, rfl⟩
      · obtain rfl : k = m := by omega
        have HE : Hid (Ending.returned (.int .i64 0) = .returned (.int .i64 R)) := Lib.hid (by
          rw [hr.out, List.drop_of_length_le (l := x) (by rw [← HN.out]; exact Nat.le_refl _), List.drop_of_length_le (l := y) (by rw [← HM.out]; exact Nat.le_refl _)]
          rfl)
        clear hr HR H1 H2
        go_wp2_with fail
        go_ret
        exact ⟨HE.out, rfl⟩
theorem nright_any (s : ByteArray) (w : World) (hs : s.size ≤ 140737488351232) (hw : Laid w) :
    Calls Tryd.prog 18 #[.string s] w fun e w' => e = .returned (.bool (readL s.data.toList).isSome) ∧ Below w.heap.size w w' := by
  go_enter Tryd.func18, Tryd.ntmps18
  go_wp2_with fail
  refine (read_any s _ hs hw).mono ?_
  rintro e w1 ⟨v, rfl, hrow, hb, hnil⟩
  clear hrow hnil
  go_wp2_with fail
  go_ret
  exact ⟨rfl, hb⟩
def PartsEnds (w : World) (F : Option (List Int)) (e : Ending) (w' : World) : Prop :=
  ∃ v, e = .returned v ∧ w'.ownsRow w.heap.size 3 1 v (F.getD []).length (ic (F.getD [])) ∧ Below w.heap.size w w' ∧ (F = none → v = .slice none 0 0)
theorem parts_any (s : ByteArray) (w : World) (hs : s.size ≤ 140737488351232) (hw : Laid w) :
    Calls Tryd.prog 14 #[.string s] w (PartsEnds w (readL s.data.toList)) := by
  go_enter Tryd.func14, Tryd.ntmps14
  go_wp2_with fail
  refine (read_any s _ hs hw).mono ?_
  rintro e w1 ⟨v, rfl, hrow, hb, hnil⟩
  have HE : Hid (PartsEnds w (readL s.data.toList) (.returned v) w1) := Lib.hid ⟨v, rfl, hrow, hb, hnil⟩
  clear hrow hnil
  go_wp2_with fail
  go_ret
  exact HE.out
def childS (s : List UInt8) (n : Int) : Option (List UInt8) := match readL s with
  | none => none
  | some l => ofL (l ++ [n])
def ChildEnds (w : World) (r : Option (List UInt8)) (e : Ending) (w' : World) : Prop := e = .returned (.tuple #[.string ⟨(r.getD []).toArray⟩, .bool r.isSome]) ∧ Below w.heap.size w w'
set_option maxHeartbeats 1000000 in
theorem child_no (s : ByteArray) (n : Int) (w : World) (hs : s.size ≤ 140737488351232) (hw : Laid w) (h : readL s.data.toList = none) :
    Calls Tryd.prog 12 #[.string s, .int .i64 n] w (ChildEnds w (childS s.data.toList n)) := by
  have hf : childS s.data.toList n = none := by unfold childS; rw [h]
  rw [hf]
  have H := Lib.hid h
  clear h hf
  go_enter Tryd.func12, Tryd.ntmps12
  go_wp2_with fail
  refine (read_any s _ hs hw).mono ?_
  rw [H.out]
  rintro e w1 ⟨v, rfl, hrow, hb, hnil⟩
  clear hrow hnil
  go_wp2_with fail
  go_ret2
  exact ⟨rfl, hb⟩
set_option maxHeartbeats 1000000 in
theorem child_yes (s : ByteArray) (n : Int) (w : World) (hs : s.size ≤ 140737488351232) (hw : Laid w) (l : List Int) (h : readL s.data.toList = some l) :
    Calls Tryd.prog 12 #[.string s, .int .i64 n] w (ChildEnds w (childS s.data.toList n)) := by
  have hf : childS s.data.toList n = ofL (l ++ [n]) := by unfold childS; rw [h]
  rw [hf]
  have H := Lib.hid h
  have hlen := (readL_some h).1.2.1
  clear h hf
  obtain ⟨i0, hi, hz0, hz1, hz2⟩ := info_parts intInfo
  go_enter Tryd.func12, Tryd.ntmps12
  go_wp2_with fail
  refine (read_any s _ hs hw).mono ?_
  rw [H.out]
  rintro e w1 ⟨v, rfl, hrow, hb, -⟩
  have hown : w1.ownsRow w.heap.size 3 1 v l.length (ic l) := hrow
  obtain ⟨ao, cap, rfl⟩ := ownsRow_slice hown
  have hz := hb.size
  have HB := Lib.hid hb
  clear hrow hb
  go_wp2_with (at_builtin; refine wpList_append_own _ rfl _ _ 22 rfl w.heap.size 3 i0 (.int .i64 0) 1 8 Tryd.underlying22 hi hz0 hz1 hz2 rfl (by decide) _ _ _ rfl (hown.alloc _) ⟨w1.heap.size, 0, none⟩ 1 1 [.int .i64 n] rfl rfl ?c1 ?c2 ?c3 ?c4 ?c5 ?_)
  case c1 =>
    intro j u hj
    match j, hj with
    | 0, hj => simp at hj; subst hj; simp [Addr.add]
  case c2 => intro u hu; simp at hu; subst hu; rfl
  case c3 => unfold maxLen; omega
  case c4 => omega
  case c5 => simp; omega
  intro v' w3 hown' hgrow _
  have hrow : ∀ k, (Value.slice ao l.length cap).ownBlock = some k → w.heap.size ≤ k := fun k hk => (hown.lt k hk).1
  have hb3 : Below w.heap.size w w3 := (below_al HB.out _).grown hgrow (by simp; omega) hrow
  have hi3 : IntsAt w3 v' (l ++ [n]) := IntsAt.of_row (B := w.heap.size) (by rw [ic_app]; simpa [ic] using hown')
  clear hown hown' hgrow hrow HB
  have HI := Lib.hid hi3
  have HB := Lib.hid hb3
  clear hi3 hb3
  go_wp2_with fail
  refine (made_any _ _ _ HI.out (hw.below HB.out)).mono ?_
  rintro e w4 ⟨rfl, hb4⟩
  have HB4 := Lib.hid (below_then HB.out hb4)
  clear hb4
  go_wp2_with fail
  go_ret2
  exact ⟨rfl, HB4.out⟩
theorem child_any (s : ByteArray) (n : Int) (w : World) (hs : s.size ≤ 140737488351232) (hw : Laid w) :
    Calls Tryd.prog 12 #[.string s, .int .i64 n] w (ChildEnds w (childS s.data.toList n)) := by
  cases h : readL s.data.toList with
  | none => exact child_no s n w hs hw h
  | some l => exact child_yes s n w hs hw l h
end Go.Proofs.YthgmogaiigkgfaaDoor
